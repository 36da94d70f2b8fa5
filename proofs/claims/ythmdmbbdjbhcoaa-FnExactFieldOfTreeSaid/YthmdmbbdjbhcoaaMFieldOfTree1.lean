/- Several texts in one. -/
import Derived.Test.YthmdmbbdjbhcoaaMFieldOfTree0
import Derived.Test.YthmdmbbdjbhcoaaG0
import Derived.Below
import Derived.WalkKit
import Derived.ProofKit
/- Parts of slices; slices that are put together. -/
namespace Go.Proofs.Ythmdmbbdjbhcoaa
open HL
set_option maxRecDepth 100000
namespace HL
theorem Sl.cut {α : Type} {enc : α → Value} {H : Hp} {v : Value} {l : List α} (h : Sl enc H v l) {lo hi : Int} (h0 : 0 ≤ lo) (h1 : lo ≤ hi) (h2 : hi ≤ l.length) :
    ∃ x, vSl3 1 v (some (.int .i64 lo)) (some (.int .i64 hi)) none = some x ∧ (hi = l.length → vSl3 1 v (some (.int .i64 lo)) none none = some x) ∧ (lo = 0 → vSl3 1 v none (some (.int .i64 hi)) none = some x) ∧ (lo = 0 → hi = l.length → vSl3 1 v none none none = some x) ∧
      Sl enc H x ((l.drop lo.toNat).take (hi.toNat - lo.toNat)) ∧ (∀ b, bk x = some b → bk v = some b) := by
  obtain ⟨a, c, rfl, hc, hr⟩ := h
  have e1 : bnd (some (.int .i64 hi)) c l.length = some hi.toNat := by simp only [bnd]; rw [if_pos ⟨by omega, by omega⟩]
  have e2 : bnd (some (.int .i64 lo)) hi.toNat 0 = some lo.toNat := by simp only [bnd]; rw [if_pos ⟨by omega, by omega⟩]
  have e3 : bnd none c l.length = some l.length := rfl
  refine ⟨.slice (if c = lo.toNat then a else a.map (·.add (lo.toNat * 1))) (hi.toNat - lo.toNat) (c - lo.toNat), ?_, ?_, ?_, ?_, ?_, ?_⟩
  · simp only [vSl3, vSl, e1, e2]
  · intro e
    subst e
    have e2' : bnd (some (.int .i64 lo)) l.length 0 = some lo.toNat := by simpa using e2
    simp only [vSl3, vSl, e3, e2', Int.toNat_natCast]
  · intro e
    subst e
    simp only [vSl3, vSl, e1]; rfl
  · intro e e'
    subst e e'
    simp only [vSl3, vSl, e3, Int.toNat_natCast]; rfl
  · have hl : ((l.drop lo.toNat).take (hi.toNat - lo.toNat)).length = hi.toNat - lo.toNat := by simp; omega
    refine ⟨_, _, by rw [hl], by rw [hl]; omega, fun i hi' => ?_⟩
    rw [hl] at hi'
    obtain ⟨ad, rfl, hh⟩ := hr (lo.toNat + i) (by omega)
    rw [if_neg (by omega)]
    refine ⟨ad.add (lo.toNat * 1), rfl, ?_⟩
    have e4 : (ad.add (lo.toNat * 1)).add i = ad.add (lo.toNat + i) := by
      rw [Nat.mul_one]
      unfold Addr.add
      by_cases hx : lo.toNat = 0
      · rw [if_pos hx, hx, Nat.zero_add]
      · by_cases hy : i = 0
        · subst hy; simp
        · rw [if_neg hx, if_neg hy, if_neg (by omega)]; simp [Nat.add_assoc]
    rw [e4, hh]
    simp
  · intro b hb
    by_cases hcl : c = lo.toNat
    · rw [if_pos hcl] at hb
      cases a with
      | none => simp [bk] at hb
      | some ad => simp only [bk] at hb; rw [if_pos (by omega)] at hb; simp at hb
    · rw [if_neg hcl] at hb
      cases a with
      | none => simp [bk] at hb
      | some ad =>
        have hbl : ∀ k, (ad.add k).block = ad.block := fun k => by unfold Addr.add; split <;> rfl
        simp only [Option.map_some, bk] at hb ⊢
        split at hb
        · simp at hb
        · rw [if_neg (by omega)]; rw [hbl] at hb; exact hb
end HL
end Go.Proofs.Ythmdmbbdjbhcoaa
/- Trees of quarters. -/
namespace Go.Proofs.Ythmdmbbdjbhcoaa
open HL
set_option maxRecDepth 100000
theorem chQ_cut {t : List Int} {m : Nat} : (t.drop (4 * (m : Int)).toNat).take ((4 * (m : Int) + 4).toNat - (4 * (m : Int)).toNat) = chQ t m := by
  unfold chQ
  rw [show (4 * (m : Int)).toNat = 4 * m by omega, show (4 * (m : Int) + 4).toNat - 4 * m = 4 by omega]
theorem same_eq {l m : List Int} (h : l.length = m.length) (ha : ∀ j : Nat, j < l.length → at_ 0 l (j : Int) = at_ 0 m (j : Int)) : l = m := by
  apply List.ext_getElem h
  intro j h1 h2
  have := ha j h1
  rw [at_eq 0 l h1, at_eq 0 m h2] at this
  exact this
theorem same_snoc {l m : List Int} {i : Nat} (ha : ∀ j : Nat, j < i → at_ 0 l (j : Int) = at_ 0 m (j : Int)) (h : at_ 0 l (i : Int) = at_ 0 m (i : Int)) : ∀ j : Nat, j < i + 1 → at_ 0 l (j : Int) = at_ 0 m (j : Int) := fun j hj => by
  by_cases e : j = i
  · subst e; exact h
  · exact ha j (by omega)
theorem C.spec_l00Same {va vb : Value} {l : List Int} {m : List Int}  {H : Hp} {K : Value → Hp → Prop} (hva0 : Sl eI H va l) (hvb0 : Sl eI H vb m) (k1 : l.length ≤ 9223372036854775807)
    (hk : ∀ H', Le H H' → K (.bool (decide (l = m))) H') : HT prg I.spec_l00Same [va, vb].toArray H K := by
 have lE := Le.refl H
 have hva := hva0
 have hvb := hvb0
 refine R.spec_l00Same ?_
 unfold F.spec_l00Same
 refine ob_i (hva.len) ?_
 refine ob_i (hvb.len) ?_
 refine ob_i (vInt_neq _ _ _) ?_
 refine cnd_d (fun hg1 => ?_) (fun hg1 => ?_)
 ·skip
  skip
  exact keq (K := K) (by rw [decide_eq_false (show ¬ (l = m) from by intro h; subst h; omega)]) (hk   _    lE)
 ·skip
  refine jn_i (fun σ' H' => Le H H' ∧ (∀ j : Nat, j < l.length → at_ 0 l (j : Int) = at_ 0 m (j : Int))) (fun σ2 H2 hP => ?_) (fun J2 hJ2 => ?_)
  ·skip
   obtain ⟨lE, ho0⟩ := hP
   skip
   exact keq (K := K) (by rw [decide_eq_true (show (l = m) from by exact same_eq (by omega) ho0)]) (hk   _    lE)
  refine ⟨fun n' σ' H' => ∃ i : Nat, n' = l.length - i ∧ i ≤ l.length ∧ σ' 0 = va ∧ σ' 1 = vb ∧ σ' 5 = (.int .i64 ((i : Int))) ∧ Le H H' ∧ (∀ j : Nat, j < i → at_ 0 l (j : Int) = at_ 0 m (j : Int)),
   ⟨_, 0, rfl, by omega, rfl, rfl, (congrArg (Value.int .i64) (by first | omega | rfl | (simp; done))), lE, (fun j hj => by omega)⟩, ?_⟩
  rintro n3 σ3 H3 ⟨i, rfl, hiN, g0L3, g1L3, g5L3, lE, hm0⟩
  have hva := hva0.le lE
  have hvb := hvb0.le lE
  try simp only [g0L3, g1L3, g5L3]
  refine ob_i (hva.len) ?_
  refine ob_i (vInt_lss _ _ _) ?_
  refine cnd_d (fun hg4 => ?_) (fun hg4 => ?_)
  ·skip
   have ti := hg4
   refine ob_i (hva.ix (by omega) (by omega)) ?_
   refine ob_i (hva.ld 0 (by omega) (by omega)) ?_
   refine ob_i (hvb.ix (by omega) (by omega)) ?_
   refine ob_i (hvb.ld 0 (by omega) (by omega)) ?_
   refine ob_i (vInt_neq _ _ _) ?_
   refine cnd_d (fun hg5 => ?_) (fun hg5 => ?_)
   ·skip
    refine retK (K := K) (v' := (.bool false)) rfl ?_
    skip
    exact keq (K := K) (by rw [decide_eq_false (show ¬ (l = m) from by intro h; subst h; omega)]) (hk   _    lE)
   ·skip
    refine ob_i (vInt_add (by omega) (by omega)) ?_
    exact nxt (l.length - (i + 1)) (by omega) ⟨i + 1, rfl, by omega, g0L3, g1L3, (congrArg (Value.int .i64) (by first | omega | rfl | (simp; done))), lE, (same_snoc hm0 (Decidable.not_not.mp hg5))⟩
  ·skip
   have ti := hg4
   exact hJ2 _ _ ⟨lE, (by rw [show l.length = i by omega]; exact hm0)⟩
theorem C.tell0 {p vc vt : Value} {r c i k z : Int} {l t : List Int} {H H1 : Hp} {K : Value → Hp → Prop} (hp0 : CelR H p [.int .i64 r, .int .i64 c, vc]) (hvc0 : Sl eI H vc l) (l0 : Le H H1) (ovt : Own eI H1 vt t) (nvt : Nw H vt) (hl : (l.length : Int) = r * c) (k1 : l.length ≤ 256) (hr : r ≤ 16) (hc : c ≤ 16) (i0 : 0 ≤ i) (k0 : 0 ≤ k) (iz : i + z ≤ r) (kz : k + z ≤ c) (hm : t.length % 4 = 0) (hz : z = szz (0)) (he : (0) ≤ 4) (hb : t.length + grQ ((0)) ≤ 1000)
    (hk : ∀ u H', Own eI H' u (telF c l (0) i k t).2 → Off vt H1 H' → (∀ b, bk u = some b → bk vt = some b ∨ H1 b = none) → K (.tuple #[.int .i64 (telF c l (0) i k t).1, u]) H') : HT prg I.spec_l05Tell [p, .int .i64 i, .int .i64 k, .int .i64 z, vt].toArray H1 K := by
 have lE := l0
 have hp := hp0.le l0
 have hvc := hvc0.le l0
 obtain ⟨Sfr, hSfr⟩ : ∃ S, S = rest H1 vt := ⟨_, rfl⟩
 have ofr : Frm H1 Sfr H1 := by rw [hSfr]; exact rest_start
 have avtXfr : Apt vt Sfr := by rw [hSfr]; exact rest_apt
 refine R.spec_l05Tell ?_
 unfold F.spec_l05Tell
 have hz1 : z = 1 := hz
 have ic0 := Int.mul_nonneg i0 (show 0 ≤ c by omega)
 have ic1 := Int.mul_le_mul_of_nonneg_right (show i + 1 ≤ r by omega) (show 0 ≤ c by omega)
 rw [Int.add_mul, Int.one_mul] at ic1
 refine ob_i (vInt_eql _ _ _) ?_
 refine cnd_d (fun hg1 => ?_) (fun hg1 => ?_)
 ·skip
  refine ob_i (hp.nilC) ?_
  refine ob_i (hp.fa 2) ?_
  refine ob_i (hp.ld 2 rfl) ?_
  refine ob_i (hp.nilC) ?_
  refine ob_i (hp.fa 1) ?_
  refine ob_i (hp.ld 1 rfl) ?_
  refine ob_i (vInt_mul (by omega) (by omega)) ?_
  refine ob_i (vInt_add (by omega) (by omega)) ?_
  refine ob_i (hvc.ix (by omega) (by omega)) ?_
  refine ob_i (hvc.ld 0 (by omega) (by omega)) ?_
  have hq : telF c l 0 i k t = (at_ 0 (l) ((i * c) + k), t) := rfl
  rw [hq] at hk
  have afr := avtXfr
  rw [hSfr] at ofr afr
  exact hk vt _ ovt (rest_off ofr) (rest_new afr)
 ·skip
  exact absurd hg1 (fun h => h hz)
def TellP (e : Nat) : Prop := ∀ {p vc vt : Value} {r c i k z : Int} {l t : List Int} {H H1 : Hp} {K : Value → Hp → Prop}, CelR H p [.int .i64 r, .int .i64 c, vc] → Sl eI H vc l → Le H H1 → Own eI H1 vt t → Nw H vt → (l.length : Int) = r * c → l.length ≤ 256 → r ≤ 16 → c ≤ 16 → 0 ≤ i → 0 ≤ k → i + z ≤ r → k + z ≤ c → t.length % 4 = 0 → z = szz e → e ≤ 4 → t.length + grQ e ≤ 1000 →
    (∀ u H', Own eI H' u (telF c l e i k t).2 → Off vt H1 H' → (∀ b, bk u = some b → bk vt = some b ∨ H1 b = none) → K (.tuple #[.int .i64 (telF c l e i k t).1, u]) H') → HT prg I.spec_l05Tell [p, .int .i64 i, .int .i64 k, .int .i64 z, vt].toArray H1 K
theorem C.tellS {e : Nat} (ih : TellP e) {p vc vt : Value} {r c i k z : Int} {l t : List Int} {H H1 : Hp} {K : Value → Hp → Prop} (hp0 : CelR H p [.int .i64 r, .int .i64 c, vc]) (hvc0 : Sl eI H vc l) (l0 : Le H H1) (ovt : Own eI H1 vt t) (nvt : Nw H vt) (hl : (l.length : Int) = r * c) (k1 : l.length ≤ 256) (hr : r ≤ 16) (hc : c ≤ 16) (i0 : 0 ≤ i) (k0 : 0 ≤ k) (iz : i + z ≤ r) (kz : k + z ≤ c) (hm : t.length % 4 = 0) (hz : z = szz (e + 1)) (he : (e + 1) ≤ 4) (hb : t.length + grQ ((e + 1)) ≤ 1000)
    (hk : ∀ u H', Own eI H' u (telF c l (e + 1) i k t).2 → Off vt H1 H' → (∀ b, bk u = some b → bk vt = some b ∨ H1 b = none) → K (.tuple #[.int .i64 (telF c l (e + 1) i k t).1, u]) H') : HT prg I.spec_l05Tell [p, .int .i64 i, .int .i64 k, .int .i64 z, vt].toArray H1 K := by
 have lE := l0
 have hp := hp0.le l0
 have hvc := hvc0.le l0
 obtain ⟨Sfr, hSfr⟩ : ∃ S, S = rest H1 vt := ⟨_, rfl⟩
 have ofr : Frm H1 Sfr H1 := by rw [hSfr]; exact rest_start
 have avtXfr : Apt vt Sfr := by rw [hSfr]; exact rest_apt
 refine R.spec_l05Tell ?_
 unfold F.spec_l05Tell
 have zz := szz_succ e
 have zp := szz_pos e
 have gq : grQ (e + 1) = 4 * grQ e + 4 := rfl
 refine ob_i (vInt_eql _ _ _) ?_
 refine cnd_d (fun hg1 => ?_) (fun hg1 => ?_)
 ·skip
  exact absurd hg1 (by omega)
 ·skip
  refine ob_i (vInt_quoN (by omega) (by omega) (by omega)) ?_
  obtain ⟨h, hh⟩ : ∃ x, x = z / 2 := ⟨_, rfl⟩
  rw [← hh]
  refine bS_nil (enc := eI) (fun u2 H3 ou2 nn4 kk5 le6 => ?_)
  have avtXu2 : Apart vt u2 := ovt.apart nn4
  have afrXu2 : Apt Sfr u2 := Apt.of_nw ofr.known nn4
  have nu2 : Nw H u2 := nn4.le lE
  replace ovt := ovt.le le6
  replace ofr := ofr.le le6
  replace hp := hp.le le6
  replace hvc := hvc.le le6
  replace lE := lE.trans le6
  refine jn_i (fun σ' H' => ∃ v, ∃ w, σ' 4 = v ∧ σ' 13 = w ∧ Frm H1 Sfr H' ∧ Own eI H' v ((fourQ (telF c l e) h i k t 4).2) ∧ Own eI H' w ((fourQ (telF c l e) h i k t 4).1) ∧ Nw H v ∧ Apt Sfr v ∧ Nw H w ∧ Apt Sfr w ∧ Apart v w ∧ Le H H') (fun σ7 H7 hP => ?_) (fun J7 hJ7 => ?_)
  ·skip
   obtain ⟨v, w, g4L7, g13L7, ofr, ov, ow, nv, afrXv, nw, afrXw, avXw, lE⟩ := hP
   have hp := hp0.le lE
   have hvc := hvc0.le lE
   try simp only [g4L7, g13L7]
   have fl := fourQ_len2 (h := h) (i := i) (k := k) (telF_len c l e) hm 4
   have f1 := fourQ_len1 (g := telF c l e) (h := h) (i := i) (k := k) (t := t) 4
   refine jn_i (fun σ' H' => σ' 4 = v ∧ σ' 13 = w ∧ Frm H1 Sfr H' ∧ Own eI H' v ((fourQ (telF c l e) h i k t 4).2) ∧ Own eI H' w ((fourQ (telF c l e) h i k t 4).1) ∧ Le H H' ∧ (∀ j : Nat, j < (fourQ (telF c l e) h i k t 4).2.length / 4 → chQ (fourQ (telF c l e) h i k t 4).2 j ≠ (fourQ (telF c l e) h i k t 4).1)) (fun σ8 H8 hP => ?_) (fun J8 hJ8 => ?_)
   ·skip
    obtain ⟨g4L8, g13L8, ofr, ov, ow, lE, ho0⟩ := hP
    have hp := hp0.le lE
    have hvc := hvc0.le lE
    try simp only [g4L8, g13L8]
    refine ob_i (ov.len) ?_
    refine ob_i (vInt_quoN (by omega) (by omega) (by omega)) ?_
    refine ob_i (vInt_add (by omega) (by omega)) ?_
    refine apd_any ov ow.sl (fun _ => rfl) (by omega) (by first | omega | (simp only [List.length_cons, List.length_nil, List.length_append, List.length_replicate, List.length_map, List.length_range]; omega)) (fun u12 H9 ou12 off10 hb11 => ?_)
    have afrXu12 : Apt Sfr u12 := Apt.ap2 ofr.known afrXv hb11
    replace ofr := ofr.off off10 afrXv
    replace hp := hp0.le (off10.le lE nv)
    replace hvc := hvc0.le (off10.le lE nv)
    replace lE := off10.le lE nv
    have e1 : h = szz e := by rw [hh, hz]; exact szz_half e
    have zz := szz_succ e
    have hq : telF c l (e + 1) i k t = ((((((fourQ (telF c l e) h i k t 4).2).length : Int)) / 4) + 2, ((fourQ (telF c l e) h i k t 4).2) ++ ((fourQ (telF c l e) h i k t 4).1)) := by
     show putQ (fourQ (telF c l e) (szz e) i k t 4).2 (fourQ (telF c l e) (szz e) i k t 4).1 = _
     rw [← e1, putQ_none ho0]
    rw [hq] at hk
    have afr := afrXu12.symm
    rw [hSfr] at ofr afr
    exact hk u12 _ ou12 (rest_off ofr) (rest_new afr)
   refine ⟨fun n' σ' H' => ∃ m : Nat, n' = ((fourQ (telF c l e) h i k t 4).2.length / 4) - m ∧ m ≤ ((fourQ (telF c l e) h i k t 4).2.length / 4) ∧ σ' 4 = v ∧ σ' 13 = w ∧ σ' 17 = (.int .i64 (4 * (m : Int))) ∧ Frm H1 Sfr H' ∧ Own eI H' v ((fourQ (telF c l e) h i k t 4).2) ∧ Own eI H' w ((fourQ (telF c l e) h i k t 4).1) ∧ Le H H' ∧ (∀ j : Nat, j < m → chQ (fourQ (telF c l e) h i k t 4).2 j ≠ (fourQ (telF c l e) h i k t 4).1),
    ⟨_, 0, rfl, by omega, g4L7, g13L7, (congrArg (Value.int .i64) (by first | omega | rfl | (simp; done))), ofr, ov, ow, lE, (fun j hj => by omega)⟩, ?_⟩
   rintro n13 σ13 H13 ⟨m, rfl, hmN, g4L13, g13L13, g17L13, ofr, ov, ow, lE, hm0⟩
   try simp only [g4L13, g13L13, g17L13]
   refine ob_i (ov.len) ?_
   refine ob_i (vInt_lss _ _ _) ?_
   refine cnd_d (fun hg14 => ?_) (fun hg14 => ?_)
   ·skip
    have tm := hg14
    refine ob_i (vInt_add (by omega) (by omega)) ?_
    obtain ⟨x15, eq16a, eq16b, eq16c, eq16d, hx150, hb17⟩ := ov.sl.cut (lo := 4 * (m : Int)) (hi := (4 * (m : Int)) + 4) (by omega) (by omega) (by omega)
    refine ob_i (eq16a) ?_
    have ox15 : Ro eI H13 x15 ((((fourQ (telF c l e) h i k t 4).2).drop (4 * (m : Int)).toNat).take (((4 * (m : Int)) + 4).toNat - (4 * (m : Int)).toNat)) := ⟨hx150, fun b hb => ov.known b (hb17 b hb)⟩
    refine C.spec_l00Same ox15.sl ow.sl (by first | (simp only [List.length_take, List.length_drop]; omega) | omega | assumption) (fun   H18    le19 => ?_)
    replace ofr := ofr.le le19
    replace ov := ov.le le19
    replace ow := ow.le le19
    replace lE := lE.trans le19
    refine cnd_d (fun hg20 => ?_) (fun hg20 => ?_)
    ·skip
     refine ob_i (vInt_quoN (by omega) (by omega) (by omega)) ?_
     refine ob_i (vInt_add (by omega) (by omega)) ?_
     refine retK (K := K) (v' := (.tuple #[(.int .i64 (((4 * (m : Int)) / 4) + 2)), v])) rfl ?_
     have e1 : h = szz e := by rw [hh, hz]; exact szz_half e
     have zz := szz_succ e
     have hq : telF c l (e + 1) i k t = (((4 * (m : Int)) / 4) + 2, (fourQ (telF c l e) h i k t 4).2) := by
      show putQ (fourQ (telF c l e) (szz e) i k t 4).2 (fourQ (telF c l e) (szz e) i k t 4).1 = _
      rw [← e1, putQ_at (j := m) (by omega) (by rw [← chQ_cut]; exact hg20) hm0]; congr 1; omega
     rw [hq] at hk
     have afr := afrXv.symm
     rw [hSfr] at ofr afr
     exact hk v _ ov (rest_off ofr) (rest_new afr)
    ·skip
     refine ob_i (vInt_add (by omega) (by omega)) ?_
     exact nxt (((fourQ (telF c l e) h i k t 4).2.length / 4) - (m + 1)) (by omega) ⟨m + 1, rfl, by omega, g4L13, g13L13, (congrArg (Value.int .i64) (by first | omega | rfl | (simp; done))), ofr, ov, ow, lE, (fun j hj => by by_cases ej : j = m; (subst ej; rw [← chQ_cut]; exact hg20); exact hm0 j (by omega))⟩
   ·skip
    have tm := hg14
    exact hJ8 _ _ ⟨g4L13, g13L13, ofr, ov, ow, lE, (by rw [show (fourQ (telF c l e) h i k t 4).2.length / 4 = m by omega]; exact hm0)⟩
  refine ⟨fun n' σ' H' => ∃ q : Nat, n' = 4 - q ∧ q ≤ 4 ∧ ∃ v, ∃ w, σ' 0 = p ∧ σ' 1 = (.int .i64 (i)) ∧ σ' 2 = (.int .i64 (k)) ∧ σ' 4 = v ∧ σ' 12 = (.int .i64 (h)) ∧ σ' 13 = w ∧ σ' 14 = (.int .i64 ((q : Int))) ∧ Frm H1 Sfr H' ∧ Own eI H' v ((fourQ (telF c l e) h i k t q).2) ∧ Own eI H' w ((fourQ (telF c l e) h i k t q).1) ∧ Nw H v ∧ Apt Sfr v ∧ Nw H w ∧ Apt Sfr w ∧ Apart v w ∧ Le H H',
   ⟨_, 0, rfl, by omega, vt, u2, rfl, rfl, rfl, rfl, rfl, rfl, (congrArg (Value.int .i64) (by first | omega | rfl | (simp; done))), ofr, (Own.cast (by first | rfl | (simp; done)) ovt), (Own.cast (by first | rfl | (simp; done)) ou2), nvt, avtXfr.symm, nu2, afrXu2, avtXu2, lE⟩, ?_⟩
  rintro n21 σ21 H21 ⟨q, rfl, hqN, v, w, g0L21, g1L21, g2L21, g4L21, g12L21, g13L21, g14L21, ofr, ov, ow, nv, afrXv, nw, afrXw, avXw, lE⟩
  have hp := hp0.le lE
  have hvc := hvc0.le lE
  try simp only [g0L21, g1L21, g2L21, g4L21, g12L21, g13L21, g14L21]
  have fl := fourQ_len2 (h := h) (i := i) (k := k) (telF_len c l e) hm q
  have f1 := fourQ_len1 (g := telF c l e) (h := h) (i := i) (k := k) (t := t) q
  have e1 : h = szz e := by rw [hh, hz]; exact szz_half e
  have zz := szz_succ e
  refine ob_i (vInt_lss _ _ _) ?_
  refine cnd_d (fun hg22 => ?_) (fun hg22 => ?_)
  ·skip
   have tq := hg22
   have qb : q * grQ e ≤ 3 * grQ e := Nat.mul_le_mul_right _ (by omega)
   have hq2 : 0 ≤ (q : Int) / 2 * h ∧ (q : Int) / 2 * h ≤ h := by
    have : (q : Int) / 2 = 0 ∨ (q : Int) / 2 = 1 := by omega
    rcases this with h' | h' <;> rw [h'] <;> omega
   have hq3 : 0 ≤ (q : Int) % 2 * h ∧ (q : Int) % 2 * h ≤ h := by
    have : (q : Int) % 2 = 0 ∨ (q : Int) % 2 = 1 := by omega
    rcases this with h' | h' <;> rw [h'] <;> omega
   refine ob_i (vInt_quoN (by omega) (by omega) (by omega)) ?_
   refine ob_i (vInt_mul (by omega) (by omega)) ?_
   refine ob_i (vInt_add (by omega) (by omega)) ?_
   refine ob_i (vInt_remN (by omega) (by omega)) ?_
   refine ob_i (vInt_mul (by omega) (by omega)) ?_
   refine ob_i (vInt_add (by omega) (by omega)) ?_
   refine ih hp0 hvc0 lE ov nv hl k1 (by omega) (by omega) (by omega) (by omega) (by omega) (by omega) (by first | omega | rfl) (by first | assumption | omega) (by omega) (by first | omega | (simp only [List.length_nil]; omega)) (fun u26 H23 ou26 off24 hb25 => ?_)
   have afrXu26 : Apt Sfr u26 := Apt.ap2 ofr.known afrXv hb25
   have awXu26 : Apart w u26 := Apart.ap2 ow.known avXw.symm hb25
   have nu26 : Nw H u26 := Nw.ap2 nv lE hb25
   replace ofr := ofr.off off24 afrXv
   replace ow := ow.off off24 avXw.symm
   replace hp := hp0.le (off24.le lE nv)
   replace hvc := hvc0.le (off24.le lE nv)
   replace lE := off24.le lE nv
   refine ob_i (vExt_20 _ _) ?_
   refine ob_i (vExt_21 _ _) ?_
   refine bS_i (enc := eI) (l := [(telF c l e (i + (((q : Int) / 2) * h)) (k + (((q : Int) % 2) * h)) ((fourQ (telF c l e) h i k t q).2)).1]) (by omega) rfl (by kernel_rfl) (fun u27 H28 ou27 nn29 le31 => ?_)
   replace ofr := ofr.le le31
   replace ow := ow.le le31
   replace ou26 := ou26.le le31
   replace hp := hp.le le31
   replace hvc := hvc.le le31
   replace lE := lE.trans le31
   refine apd_any ow ou27.sl (fun _ => rfl) (by omega) (by first | omega | (simp only [List.length_cons, List.length_nil]; omega)) (fun u35 H32 ou35 off33 hb34 => ?_)
   have afrXu35 : Apt Sfr u35 := Apt.ap2 ofr.known afrXw hb34
   have au26Xu35 : Apart u26 u35 := Apart.ap2 ou26.known awXu26.symm hb34
   have nu35 : Nw H u35 := Nw.ap2 nw lE hb34
   replace ofr := ofr.off off33 afrXw
   replace ou26 := ou26.off off33 awXu26.symm
   replace hp := hp0.le (off33.le lE nw)
   replace hvc := hvc0.le (off33.le lE nw)
   replace lE := off33.le lE nw
   refine ob_i (vInt_add (by omega) (by omega)) ?_
   exact nxt (4 - (q + 1)) (by omega) ⟨q + 1, rfl, by omega, u26, u35, g0L21, g1L21, g2L21, rfl, g12L21, rfl, (congrArg (Value.int .i64) (by first | omega | rfl | (simp; done))), ofr, ou26, ou35, nu26, afrXu26, nu35, afrXu35, au26Xu35, lE⟩
  ·skip
   have tq := hg22
   obtain rfl : q = 4 := by omega
   exact hJ7 _ _ ⟨v, w, g4L21, g13L21, ofr, ov, ow, nv, afrXv, nw, afrXw, avXw, lE⟩
theorem C.tell_all : ∀ e, TellP e
  | 0 => fun a b d f g h0 h1 h2 h3 h4 h5 h6 h7 h8 h9 h10 h11 hk => C.tell0 a b d f g h0 h1 h2 h3 h4 h5 h6 h7 h8 h9 h10 h11 hk
  | e + 1 => fun a b d f g h0 h1 h2 h3 h4 h5 h6 h7 h8 h9 h10 h11 hk => C.tellS (C.tell_all e) a b d f g h0 h1 h2 h3 h4 h5 h6 h7 h8 h9 h10 h11 hk
theorem C.spec_l05Tree {p vc : Value} {r c : Int} {l : List Int}  {H : Hp} {K : Value → Hp → Prop} (hp0 : Cel H p [(.int .i64 (r)), (.int .i64 (c)), vc]) (hvc0 : Sl eI H vc l) (hP : sqP r c l)
    (hk : ∀ u1 H', Own eI H' u1 (treL r c l) → Nw H u1 → Le H H' → K u1 H') : HT prg I.spec_l05Tree [p].toArray H K := by
 have lE := Le.refl H
 have hp := hp0
 have hvc := hvc0
 refine R.spec_l05Tree ?_
 unfold F.spec_l05Tree
 have hf := hP.1
 have hl := hf.2.1
 have hrc := hP.2.1
 have hr4 := hP.2.2
 have zr : r = szz (lgN r - 1) := by rcases hr4 with rfl | rfl | rfl <;> decide
 have e5 : lgN r - 1 ≤ 4 := by rcases hr4 with rfl | rfl | rfl <;> decide
 have g5 := grQ_le (lgN r - 1) e5
 have k1 : l.length ≤ 256 := by have := Int.mul_le_mul (show r ≤ 16 by omega) (show c ≤ 16 by omega) (by omega) (by omega); omega
 refine ob_i (hp.nilC) ?_
 refine ob_i (hp.fa 0) ?_
 refine ob_i (hp.ld 0 rfl) ?_
 refine bS_nil (enc := eI) (fun u1 H2 ou1 nn3 kk4 le5 => ?_)
 have nu1 : Nw H u1 := nn3.le lE
 replace hp := hp.le le5
 replace hvc := hvc.le le5
 replace lE := lE.trans le5
 refine C.tell_all (lgN r - 1) hp0.r hvc0 lE ou1 nu1 hl k1 (by omega) (by omega) (by omega) (by omega) (by omega) (by omega) (by first | omega | rfl) (by first | assumption | omega) (by omega) (by first | omega | (simp only [List.length_nil]; omega)) (fun u9 H6 ou9 off7 hb8 => ?_)
 have nu9 : Nw H u9 := Nw.ap2 nu1 lE hb8
 replace hp := hp0.le (off7.le lE nu1)
 replace hvc := hvc0.le (off7.le lE nu1)
 replace lE := off7.le lE nu1
 refine ob_i (vExt_20 _ _) ?_
 refine ob_i (vExt_21 _ _) ?_
 skip
 exact hk  u9 _ (Own.cast (show (telF c l (lgN r - 1) (0) (0) ([])).2 = treL r c l by first | rfl | simp) ou9) nu9  lE
theorem C.tree0 {pf ft pl po mq vc vt : Value} {Smq : Rg} {r c i k z : Int} {l t : List Int} {H H1 : Hp} {K : Value → Hp → Prop} (hvc0 : Sl eI H vc l) (l0 : Le H H1) (opf : Cel H1 pf [.int .i64 r, .int .i64 c, vc]) (oft : Cel H1 ft [.func (.func I.impl_Field_tree_1) #[] #[pf, ft, pl, po]]) (opl : Cel H1 pl [mq]) (omq : MpQ H1 mq Smq (entQ t)) (opo : Cel H1 po [vt]) (ovt : Own eI H1 vt t) (apfXmq : Apt pf Smq) (apfXpo : Apart pf po) (apfXvt : Apart pf vt) (aftXmq : Apt ft Smq) (aftXpo : Apart ft po) (aftXvt : Apart ft vt) (aplXmq : Apt pl Smq) (aplXpo : Apart pl po) (aplXvt : Apart pl vt) (amqXpo : Apt Smq po) (amqXvt : Apt Smq vt) (apoXvt : Apart po vt) (nmq : Nws H Smq) (npo : Nw H po) (nvt : Nw H vt) (hl : (l.length : Int) = r * c) (k1 : l.length ≤ 256) (hr : r ≤ 16) (hc : c ≤ 16) (i0 : 0 ≤ i) (k0 : 0 ≤ k) (iz : i + z ≤ r) (kz : k + z ≤ c) (hm : t.length % 4 = 0) (hz : z = szz (0)) (he : (0) ≤ 4) (hb : t.length + grQ ((0)) ≤ 1000)
    (hk : ∀ u H', Own eI H' u (telF c l (0) i k t).2 → MpQ H' mq Smq (entQ (telF c l (0) i k t).2) → Cel H' po [u] → OffS (HL.tri po Smq vt) H1 H' → (∀ b, bk u = some b → bk vt = some b ∨ H1 b = none) → K (.int .i64 (telF c l (0) i k t).1) H') : HT prg I.impl_Field_tree_1 [.int .i64 i, .int .i64 k, .int .i64 z, pf, ft, pl, po].toArray H1 K := by
 have lE := l0
 have hvc := hvc0.le l0
 obtain ⟨Sfr, hSfr⟩ : ∃ S, S = rest H1 (HL.tri po Smq vt) := ⟨_, rfl⟩
 have ofr : Frm H1 Sfr H1 := by rw [hSfr]; exact rest_start
 have avtXfr : Apt vt Sfr := by rw [hSfr]; exact tri_apt.2.2
 refine R.impl_Field_tree_1 ?_
 unfold F.impl_Field_tree_1
 have hz1 : z = 1 := hz
 have ic0 := Int.mul_nonneg i0 (show 0 ≤ c by omega)
 have ic1 := Int.mul_le_mul_of_nonneg_right (show i + 1 ≤ r by omega) (show 0 ≤ c by omega)
 rw [Int.add_mul, Int.one_mul] at ic1
 refine ob_i (vInt_eql _ _ _) ?_
 refine cnd_d (fun hg1 => ?_) (fun hg1 => ?_)
 ·skip
  refine ob_i (opf.ldn rfl) ?_
  refine C.impl_Field_at hvc (by first | omega | assumption) (by first | omega | assumption) (by first | omega | assumption) (by first | omega | assumption) (by first | omega | assumption) (fun   H2    le3 => ?_)
  replace omq := omq.le le3
  replace opo := opo.le le3
  replace ovt := ovt.le le3
  replace ofr := ofr.le le3
  replace lE := lE.trans le3
  have hq : telF c l 0 i k t = (at_ 0 l (i * c + k), t) := rfl
  rw [hq] at hk
  have afr := avtXfr
  rw [hSfr] at ofr afr
  exact hk vt _ ovt (omq) opo (rest_offS ofr) (tri_new afr apoXvt.symm amqXvt.symm)
 ·skip
  exact absurd hg1 (fun h => h hz)
def TreeP (e : Nat) : Prop := ∀ {pf ft pl po mq vc vt : Value} {Smq : Rg} {r c i k z : Int} {l t : List Int} {H H1 : Hp} {K : Value → Hp → Prop} , ∀ (hvc0 : Sl eI H vc l) (l0 : Le H H1) (opf : Cel H1 pf [.int .i64 r, .int .i64 c, vc]) (oft : Cel H1 ft [.func (.func I.impl_Field_tree_1) #[] #[pf, ft, pl, po]]) (opl : Cel H1 pl [mq]) (omq : MpQ H1 mq Smq (entQ t)) (opo : Cel H1 po [vt]) (ovt : Own eI H1 vt t) (apfXmq : Apt pf Smq) (apfXpo : Apart pf po) (apfXvt : Apart pf vt) (aftXmq : Apt ft Smq) (aftXpo : Apart ft po) (aftXvt : Apart ft vt) (aplXmq : Apt pl Smq) (aplXpo : Apart pl po) (aplXvt : Apart pl vt) (amqXpo : Apt Smq po) (amqXvt : Apt Smq vt) (apoXvt : Apart po vt) (nmq : Nws H Smq) (npo : Nw H po) (nvt : Nw H vt) (hl : (l.length : Int) = r * c) (k1 : l.length ≤ 256) (hr : r ≤ 16) (hc : c ≤ 16) (i0 : 0 ≤ i) (k0 : 0 ≤ k) (iz : i + z ≤ r) (kz : k + z ≤ c) (hm : t.length % 4 = 0) (hz : z = szz e) (he : e ≤ 4) (hb : t.length + grQ (e) ≤ 1000) (hk : ∀ u H', Own eI H' u (telF c l (e) i k t).2 → MpQ H' mq Smq (entQ (telF c l (e) i k t).2) → Cel H' po [u] → OffS (HL.tri po Smq vt) H1 H' → (∀ b, bk u = some b → bk vt = some b ∨ H1 b = none) → K (.int .i64 (telF c l (e) i k t).1) H'), HT prg I.impl_Field_tree_1 [.int .i64 i, .int .i64 k, .int .i64 z, pf, ft, pl, po].toArray H1 K
theorem C.treeS {e : Nat} (ih : TreeP e) {pf ft pl po mq vc vt : Value} {Smq : Rg} {r c i k z : Int} {l t : List Int} {H H1 : Hp} {K : Value → Hp → Prop} (hvc0 : Sl eI H vc l) (l0 : Le H H1) (opf : Cel H1 pf [.int .i64 r, .int .i64 c, vc]) (oft : Cel H1 ft [.func (.func I.impl_Field_tree_1) #[] #[pf, ft, pl, po]]) (opl : Cel H1 pl [mq]) (omq : MpQ H1 mq Smq (entQ t)) (opo : Cel H1 po [vt]) (ovt : Own eI H1 vt t) (apfXmq : Apt pf Smq) (apfXpo : Apart pf po) (apfXvt : Apart pf vt) (aftXmq : Apt ft Smq) (aftXpo : Apart ft po) (aftXvt : Apart ft vt) (aplXmq : Apt pl Smq) (aplXpo : Apart pl po) (aplXvt : Apart pl vt) (amqXpo : Apt Smq po) (amqXvt : Apt Smq vt) (apoXvt : Apart po vt) (nmq : Nws H Smq) (npo : Nw H po) (nvt : Nw H vt) (hl : (l.length : Int) = r * c) (k1 : l.length ≤ 256) (hr : r ≤ 16) (hc : c ≤ 16) (i0 : 0 ≤ i) (k0 : 0 ≤ k) (iz : i + z ≤ r) (kz : k + z ≤ c) (hm : t.length % 4 = 0) (hz : z = szz (e + 1)) (he : (e + 1) ≤ 4) (hb : t.length + grQ ((e + 1)) ≤ 1000)
    (hk : ∀ u H', Own eI H' u (telF c l (e + 1) i k t).2 → MpQ H' mq Smq (entQ (telF c l (e + 1) i k t).2) → Cel H' po [u] → OffS (HL.tri po Smq vt) H1 H' → (∀ b, bk u = some b → bk vt = some b ∨ H1 b = none) → K (.int .i64 (telF c l (e + 1) i k t).1) H') : HT prg I.impl_Field_tree_1 [.int .i64 i, .int .i64 k, .int .i64 z, pf, ft, pl, po].toArray H1 K := by
 have lE := l0
 have hvc := hvc0.le l0
 obtain ⟨Sfr, hSfr⟩ : ∃ S, S = rest H1 (HL.tri po Smq vt) := ⟨_, rfl⟩
 have ofr : Frm H1 Sfr H1 := by rw [hSfr]; exact rest_start
 have amqXfr : Apt Smq Sfr := by rw [hSfr]; exact tri_apt.2.1
 have apoXfr : Apt po Sfr := by rw [hSfr]; exact tri_apt.1
 have avtXfr : Apt vt Sfr := by rw [hSfr]; exact tri_apt.2.2
 refine R.impl_Field_tree_1 ?_
 unfold F.impl_Field_tree_1
 have zz := szz_succ e
 have zp := szz_pos e
 have gq : grQ (e + 1) = 4 * grQ e + 4 := rfl
 refine ob_i (vInt_eql _ _ _) ?_
 refine cnd_d (fun hg1 => ?_) (fun hg1 => ?_)
 ·skip
  exact absurd hg1 (by omega)
 ·skip
  refine ob_i (vInt_quoN (by omega) (by omega) (by omega)) ?_
  obtain ⟨h, hh⟩ : ∃ x, x = z / 2 := ⟨_, rfl⟩
  rw [← hh]
  refine hp_val (v := (.agg #[(.int .i64 (0)), (.int .i64 (0)), (.int .i64 (0)), (.int .i64 (0))])) (fun K => by kernel_rfl) ?_
  refine nw_i (fun pa H2 opa nn3 le4 => ?_)
  have apfXpa : Apart pf pa := opf.apart nn3
  have aftXpa : Apart ft pa := oft.apart nn3
  have aplXpa : Apart pl pa := opl.apart nn3
  have amqXpa : Apt Smq pa := Apt.of_nw omq.known nn3
  have apoXpa : Apart po pa := opo.apart nn3
  have avtXpa : Apart vt pa := ovt.apart nn3
  have afrXpa : Apt Sfr pa := Apt.of_nw ofr.known nn3
  have npa : Nw H pa := nn3.le lE
  replace opf := opf.le le4
  replace oft := oft.le le4
  replace opl := opl.le le4
  replace omq := omq.le le4
  replace opo := opo.le le4
  replace ovt := ovt.le le4
  replace ofr := ofr.le le4
  replace hvc := hvc.le le4
  replace lE := lE.trans le4
  replace opa : Cel H2 pa [(.int .i64 (0)), (.int .i64 (0)), (.int .i64 (0)), (.int .i64 (0))] := opa
  refine opa.stn (ws := [(.int .i64 (0)), (.int .i64 (0)), (.int .i64 (0)), (.int .i64 (0))]) rfl rfl (oc1 rfl (oc1 rfl (oc1 rfl (oc1 rfl oc0)))) (fun H5 opa off6 => ?_)
  replace opf := opf.off off6 apfXpa
  replace oft := oft.off off6 aftXpa
  replace opl := opl.off off6 aplXpa
  replace omq := omq.off off6 amqXpa
  replace opo := opo.off off6 apoXpa
  replace ovt := ovt.off off6 avtXpa
  replace ofr := ofr.off off6 afrXpa
  replace hvc := hvc0.le (off6.le lE npa)
  replace lE := off6.le lE npa
  replace opa : Cel H5 pa [(.int .i64 (0)), (.int .i64 (0)), (.int .i64 (0)), (.int .i64 (0))] := opa
  refine jn_i (fun σ' H' => ∃ v, σ' 5 = pl ∧ σ' 6 = po ∧ σ' 12 = pa ∧ Cel H' pf [(.int .i64 (r)), (.int .i64 (c)), vc] ∧ Cel H' ft [(.func (.func I.impl_Field_tree_1) #[] #[pf, ft, pl, po])] ∧ Cel H' pl [mq] ∧ MpQ H' mq Smq (entQ (fourQ (telF c l e) h i k t 4).2) ∧ Cel H' po [v] ∧ Frm H1 Sfr H' ∧ Cel H' pa [(.int .i64 (at_ 0 ((fourQ (telF c l e) h i k t 4).1) 0)), (.int .i64 (at_ 0 ((fourQ (telF c l e) h i k t 4).1) 1)), (.int .i64 (at_ 0 ((fourQ (telF c l e) h i k t 4).1) 2)), (.int .i64 (at_ 0 ((fourQ (telF c l e) h i k t 4).1) 3))] ∧ Own eI H' v ((fourQ (telF c l e) h i k t 4).2) ∧ Nw H v ∧ Apart pf v ∧ Apart ft v ∧ Apart pl v ∧ Apt Smq v ∧ Apart po v ∧ Apt Sfr v ∧ Apart pa v ∧ Le H H') (fun σ7 H7 hP => ?_) (fun J7 hJ7 => ?_)
  ·skip
   obtain ⟨v, g5L7, g6L7, g12L7, opf, oft, opl, omq, opo, ofr, opa, ov, nv, apfXv, aftXv, aplXv, amqXv, apoXv, afrXv, apaXv, lE⟩ := hP
   have hvc := hvc0.le lE
   try simp only [g5L7, g6L7, g12L7]
   have fl := fourQ_len2 (h := h) (i := i) (k := k) (telF_len c l e) hm 4
   have f1 := fourQ_len1 (g := telF c l e) (h := h) (i := i) (k := k) (t := t) 4
   have eL := entQ_len (t := (fourQ (telF c l e) h i k t 4).2)
   have gb := mgetQ_bnd (T := (fourQ (telF c l e) h i k t 4).2) (F := (fourQ (telF c l e) h i k t 4).1) f1
   refine ob_i (opl.ld0 rfl) ?_
   refine ob_i (opa.ldn rfl) ?_
   refine MpQ.look' (k := (fourQ (telF c l e) h i k t 4).1) omq (by kernel_rfl) ?_
   refine ob_i (vExt_20 _ _) ?_
   refine ob_i (vExt_21 _ _) ?_
   refine ob_i (vUn_not _) ?_
   refine cnd_i (fun hg8 => ?_) (fun hg8 => ?_)
   ·skip
    refine ob_i (opl.ld0 rfl) ?_
    refine ob_i (omq.len (by kernel_rfl)) ?_
    refine ob_i (opl.ld0 rfl) ?_
    refine ob_i (opa.ldn rfl) ?_
    refine MpQ.add' (k := (fourQ (telF c l e) h i k t 4).1) omq (by kernel_rfl) (by exact none_of_not (by assumption)) (fun H9 omq off10 => ?_)
    replace opo := opo.offS off10 amqXpo.symm
    replace ofr := ofr.offS off10 amqXfr.symm
    replace opa := opa.offS off10 amqXpa.symm
    replace ov := ov.offS off10 amqXv.symm
    replace hvc := hvc0.le (off10.le lE nmq)
    replace lE := off10.le lE nmq
    refine ob_i (opo.ld0 rfl) ?_
    obtain ⟨x11, eq12, ox11, hb13⟩ := Cel.slA (L := (fourQ (telF c l e) h i k t 4).1) (Cel.cast (c4_map (by omega)) opa) (by omega)
    refine ob_i (eq12) ?_
    refine apd_any ov ox11.sl (fun _ => rfl) (by omega) (by first | omega | (simp only [List.length_cons, List.length_nil, List.length_append, List.length_replicate, List.length_map, List.length_range]; omega)) (fun u17 H14 ou17 off15 hb16 => ?_)
    have amqXu17 : Apt Smq u17 := Apt.ap2 omq.known amqXv hb16
    have apoXu17 : Apart po u17 := Apart.ap2 opo.known apoXv hb16
    have afrXu17 : Apt Sfr u17 := Apt.ap2 ofr.known afrXv hb16
    replace omq := omq.off off15 amqXv
    replace opo := opo.off off15 apoXv
    replace ofr := ofr.off off15 afrXv
    replace hvc := hvc0.le (off15.le lE nv)
    replace lE := off15.le lE nv
    refine opo.st0 (by simp) ou17.one ou17.cells (fun H18 opo off19 => ?_)
    replace omq := omq.off off19 amqXpo
    replace ofr := ofr.off off19 apoXfr.symm
    replace ou17 := ou17.off off19 apoXu17.symm
    replace hvc := hvc0.le (off19.le lE npo)
    replace lE := off19.le lE npo
    replace opo : Cel H18 po [u17] := opo
    refine ob_i (vInt_add (by omega) (by omega)) ?_
    have e1 : h = szz e := by rw [hh, hz]; exact szz_half e
    have zz := szz_succ e
    have hq : telF c l (e + 1) i k t = ((((entQ (fourQ (telF c l e) h i k t 4).2).length : Int)) + 2, ((fourQ (telF c l e) h i k t 4).2) ++ ((fourQ (telF c l e) h i k t 4).1)) := by
     show putQ (fourQ (telF c l e) (szz e) i k t 4).2 (fourQ (telF c l e) (szz e) i k t 4).1 = _
     rw [← e1, putQ_new f1 hg8]
    rw [hq] at hk
    have afr := afrXu17.symm
    rw [hSfr] at ofr afr
    exact hk u17 _ ou17 (MpQ.cast (by rw [entQ_app fl.1 f1, entQ_len]) omq) opo (rest_offS ofr) (tri_new afr apoXu17.symm amqXu17.symm)
   ·skip
    refine ob_i (vInt_add (by omega) (by omega)) ?_
    have e1 : h = szz e := by rw [hh, hz]; exact szz_half e
    have zz := szz_succ e
    have hq : telF c l (e + 1) i k t = (((mgetQ ((fourQ (telF c l e) h i k t 4).1) (entQ (fourQ (telF c l e) h i k t 4).2)).getD 0) + 2, (fourQ (telF c l e) h i k t 4).2) := by
     show putQ (fourQ (telF c l e) (szz e) i k t 4).2 (fourQ (telF c l e) (szz e) i k t 4).1 = _
     rw [← e1, putQ_old f1 hg8]
    rw [hq] at hk
    have afr := afrXv.symm
    rw [hSfr] at ofr afr
    exact hk v _ ov (omq) opo (rest_offS ofr) (tri_new afr apoXv.symm amqXv.symm)
  refine ⟨fun n' σ' H' => ∃ q : Nat, n' = 4 - q ∧ q ≤ 4 ∧ ∃ v, σ' 0 = (.int .i64 (i)) ∧ σ' 1 = (.int .i64 (k)) ∧ σ' 4 = ft ∧ σ' 5 = pl ∧ σ' 6 = po ∧ σ' 11 = (.int .i64 (h)) ∧ σ' 12 = pa ∧ σ' 25 = (.int .i64 ((q : Int))) ∧ Cel H' pf [(.int .i64 (r)), (.int .i64 (c)), vc] ∧ Cel H' ft [(.func (.func I.impl_Field_tree_1) #[] #[pf, ft, pl, po])] ∧ Cel H' pl [mq] ∧ MpQ H' mq Smq (entQ (fourQ (telF c l e) h i k t q).2) ∧ Cel H' po [v] ∧ Frm H1 Sfr H' ∧ Cel H' pa [(.int .i64 (at_ 0 (pad4 ((fourQ (telF c l e) h i k t q).1)) 0)), (.int .i64 (at_ 0 (pad4 ((fourQ (telF c l e) h i k t q).1)) 1)), (.int .i64 (at_ 0 (pad4 ((fourQ (telF c l e) h i k t q).1)) 2)), (.int .i64 (at_ 0 (pad4 ((fourQ (telF c l e) h i k t q).1)) 3))] ∧ Own eI H' v ((fourQ (telF c l e) h i k t q).2) ∧ Nw H v ∧ Apart pf v ∧ Apart ft v ∧ Apart pl v ∧ Apt Smq v ∧ Apart po v ∧ Apt Sfr v ∧ Apart pa v ∧ Le H H',
   ⟨_, 0, rfl, by omega, vt, rfl, rfl, rfl, rfl, rfl, rfl, rfl, (congrArg (Value.int .i64) (by first | omega | rfl | (simp; done))), opf, oft, opl, omq, opo, ofr, (Cel.cast rfl opa), (Own.cast (by first | rfl | (simp; done)) ovt), nvt, apfXvt, aftXvt, aplXvt, amqXvt, apoXvt, avtXfr.symm, avtXpa.symm, lE⟩, ?_⟩
  rintro n20 σ20 H20 ⟨q, rfl, hqN, v, g0L20, g1L20, g4L20, g5L20, g6L20, g11L20, g12L20, g25L20, opf, oft, opl, omq, opo, ofr, opa, ov, nv, apfXv, aftXv, aplXv, amqXv, apoXv, afrXv, apaXv, lE⟩
  have hvc := hvc0.le lE
  try simp only [g0L20, g1L20, g4L20, g11L20, g12L20, g25L20]
  have fl := fourQ_len2 (h := h) (i := i) (k := k) (telF_len c l e) hm q
  have f1 := fourQ_len1 (g := telF c l e) (h := h) (i := i) (k := k) (t := t) q
  have e1 : h = szz e := by rw [hh, hz]; exact szz_half e
  have zz := szz_succ e
  refine ob_i (vInt_lss _ _ _) ?_
  refine cnd_d (fun hg21 => ?_) (fun hg21 => ?_)
  ·skip
   have tq := hg21
   have qb : q * grQ e ≤ 3 * grQ e := Nat.mul_le_mul_right _ (by omega)
   have hq2 : 0 ≤ (q : Int) / 2 * h ∧ (q : Int) / 2 * h ≤ h := by
    have : (q : Int) / 2 = 0 ∨ (q : Int) / 2 = 1 := by omega
    rcases this with h' | h' <;> rw [h'] <;> omega
   have hq3 : 0 ≤ (q : Int) % 2 * h ∧ (q : Int) % 2 * h ≤ h := by
    have : (q : Int) % 2 = 0 ∨ (q : Int) % 2 = 1 := by omega
    rcases this with h' | h' <;> rw [h'] <;> omega
   refine ob_i (oft.ld0 rfl) ?_
   refine ob_i (vInt_quoN (by omega) (by omega) (by omega)) ?_
   refine ob_i (vInt_mul (by omega) (by omega)) ?_
   refine ob_i (vInt_add (by omega) (by omega)) ?_
   refine ob_i (vInt_remN (by omega) (by omega)) ?_
   refine ob_i (vInt_mul (by omega) (by omega)) ?_
   refine ob_i (vInt_add (by omega) (by omega)) ?_
   refine ⟨by kernel_rfl, ?_⟩
   refine ih hvc0 lE opf oft opl (MpQ.cast rfl omq) opo ov apfXmq apfXpo apfXv aftXmq aftXpo aftXv aplXmq aplXpo aplXv amqXpo amqXv apoXv nmq npo nv hl k1 (by omega) (by omega) (by omega) (by omega) (by omega) (by omega) (by first | omega | rfl) (by first | assumption | omega) (by omega) (by first | omega | (simp only [List.length_nil]; omega)) (fun u25 H22 ou25 tm26 tp27 off23 hb24 => ?_)
   have apfXu25 : Apart pf u25 := Apart.ap2 opf.known apfXv hb24
   have aftXu25 : Apart ft u25 := Apart.ap2 oft.known aftXv hb24
   have aplXu25 : Apart pl u25 := Apart.ap2 opl.known aplXv hb24
   have amqXu25 : Apt Smq u25 := Apt.ap2 omq.known amqXv hb24
   have apoXu25 : Apart po u25 := Apart.ap2 opo.known apoXv hb24
   have afrXu25 : Apt Sfr u25 := Apt.ap2 ofr.known afrXv hb24
   have apaXu25 : Apart pa u25 := Apart.ap2 opa.known apaXv hb24
   have nu25 : Nw H u25 := Nw.ap2 nv lE hb24
   replace opf := opf.offS off23 (Apt.tri apfXpo apfXmq apfXv)
   replace oft := oft.offS off23 (Apt.tri aftXpo aftXmq aftXv)
   replace opl := opl.offS off23 (Apt.tri aplXpo aplXmq aplXv)
   replace ofr := ofr.offS off23 (Apt.tri apoXfr.symm amqXfr.symm afrXv)
   replace opa := opa.offS off23 (Apt.tri apoXpa.symm amqXpa.symm apaXv)
   replace omq := tm26
   replace opo := tp27
   replace hvc := hvc0.le (off23.le lE (Nws.tri npo nmq nv))
   replace lE := off23.le lE (Nws.tri npo nmq nv)
   refine ob_i (opa.ixA (by omega) (by omega)) ?_
   refine opa.st (by simp; omega) rfl rfl (fun H28 opa off29 => ?_)
   replace opa : Cel H28 pa [(.int .i64 (at_ 0 (pad4 ((fourQ (telF c l e) h i k t q).1 ++ [(telF c l e (i + (((q : Int) / 2) * h)) (k + (((q : Int) % 2) * h)) ((fourQ (telF c l e) h i k t q).2)).1])) 0)), (.int .i64 (at_ 0 (pad4 ((fourQ (telF c l e) h i k t q).1 ++ [(telF c l e (i + (((q : Int) / 2) * h)) (k + (((q : Int) % 2) * h)) ((fourQ (telF c l e) h i k t q).2)).1])) 1)), (.int .i64 (at_ 0 (pad4 ((fourQ (telF c l e) h i k t q).1 ++ [(telF c l e (i + (((q : Int) / 2) * h)) (k + (((q : Int) % 2) * h)) ((fourQ (telF c l e) h i k t q).2)).1])) 2)), (.int .i64 (at_ 0 (pad4 ((fourQ (telF c l e) h i k t q).1 ++ [(telF c l e (i + (((q : Int) / 2) * h)) (k + (((q : Int) % 2) * h)) ((fourQ (telF c l e) h i k t q).2)).1])) 3))] := Cel.cast (c4_put f1 (by omega)) opa
   replace opf := opf.off off29 apfXpa
   replace oft := oft.off off29 aftXpa
   replace opl := opl.off off29 aplXpa
   replace omq := omq.off off29 amqXpa
   replace opo := opo.off off29 apoXpa
   replace ofr := ofr.off off29 afrXpa
   replace ou25 := ou25.off off29 apaXu25.symm
   replace hvc := hvc0.le (off29.le lE npa)
   replace lE := off29.le lE npa
   refine ob_i (vInt_add (by omega) (by omega)) ?_
   exact nxt (4 - (q + 1)) (by omega) ⟨q + 1, rfl, by omega, u25, g0L20, g1L20, g4L20, g5L20, g6L20, g11L20, g12L20, (congrArg (Value.int .i64) (by first | omega | rfl | (simp; done))), opf, oft, opl, omq, opo, ofr, opa, ou25, nu25, apfXu25, aftXu25, aplXu25, amqXu25, apoXu25, afrXu25, apaXu25, lE⟩
  ·skip
   have tq := hg21
   obtain rfl : q = 4 := by omega
   exact hJ7 _ _ ⟨v, g5L20, g6L20, g12L20, opf, oft, opl, omq, opo, ofr, (Cel.cast (by rw [pad4_full f1]) opa), ov, nv, apfXv, aftXv, aplXv, amqXv, apoXv, afrXv, apaXv, lE⟩
theorem C.tree_all : ∀ e, TreeP e
  | 0 => fun a0 a1 a2 a3 a4 a5 a6 a7 a8 a9 a10 a11 a12 a13 a14 a15 a16 a17 a18 a19 a20 a21 a22 a23 a24 a25 a26 a27 a28 a29 a30 a31 a32 a33 a34 a35 => C.tree0 a0 a1 a2 a3 a4 a5 a6 a7 a8 a9 a10 a11 a12 a13 a14 a15 a16 a17 a18 a19 a20 a21 a22 a23 a24 a25 a26 a27 a28 a29 a30 a31 a32 a33 a34 a35
  | e + 1 => fun a0 a1 a2 a3 a4 a5 a6 a7 a8 a9 a10 a11 a12 a13 a14 a15 a16 a17 a18 a19 a20 a21 a22 a23 a24 a25 a26 a27 a28 a29 a30 a31 a32 a33 a34 a35 => C.treeS (C.tree_all e) a0 a1 a2 a3 a4 a5 a6 a7 a8 a9 a10 a11 a12 a13 a14 a15 a16 a17 a18 a19 a20 a21 a22 a23 a24 a25 a26 a27 a28 a29 a30 a31 a32 a33 a34 a35
theorem C.impl_Field_tree {vc : Value} {r c : Int} {l : List Int}  {H : Hp} {K : Value → Hp → Prop} (hvc0 : Sl eI H vc l) (hP : sqP r c l)
    (hk : ∀ u1 H', Own eI H' u1 (treL r c l) → Nw H u1 → Le H H' → K u1 H') : HT prg I.impl_Field_tree [(.agg #[(.int .i64 (r)), (.int .i64 (c)), vc])].toArray H K := by
 have lE := Le.refl H
 have hvc := hvc0
 refine R.impl_Field_tree ?_
 unfold F.impl_Field_tree
 have hf := hP.1
 have hl := hf.2.1
 have hrc := hP.2.1
 have hr4 := hP.2.2
 have zr : r = szz (lgN r - 1) := by rcases hr4 with rfl | rfl | rfl <;> decide
 have e5 : lgN r - 1 ≤ 4 := by rcases hr4 with rfl | rfl | rfl <;> decide
 have g5 := grQ_le (lgN r - 1) e5
 have k1 : l.length ≤ 256 := by have := Int.mul_le_mul (show r ≤ 16 by omega) (show c ≤ 16 by omega) (by omega) (by omega); omega
 refine nw_i (fun pf H1 opf nn2 le3 => ?_)
 replace hvc := hvc.le le3
 replace lE := lE.trans le3
 replace opf : Cel H1 pf [(.int .i64 (r)), (.int .i64 (c)), vc] := opf
 refine bS_nil (enc := eI) (fun u4 H5 ou4 nn6 kk7 le8 => ?_)
 have apfXu4 : Apart pf u4 := opf.apart nn6
 have nu4 : Nw H u4 := nn6.le lE
 replace opf := opf.le le8
 replace hvc := hvc.le le8
 replace lE := lE.trans le8
 refine nw_i (fun po H9 opo nn10 le11 => ?_)
 have apfXpo : Apart pf po := opf.apart nn10
 have au4Xpo : Apart u4 po := ou4.apart nn10
 have npo : Nw H po := nn10.le lE
 replace opf := opf.le le11
 replace ou4 := ou4.le le11
 replace hvc := hvc.le le11
 replace lE := lE.trans le11
 replace opo : Cel H9 po [(.slice none 0 0)] := opo
 refine opo.st0 (by simp) ou4.one ou4.cells (fun H12 opo off13 => ?_)
 replace opf := opf.off off13 apfXpo
 replace ou4 := ou4.off off13 au4Xpo
 replace hvc := hvc0.le (off13.le lE npo)
 replace lE := off13.le lE npo
 replace opo : Cel H12 po [u4] := opo
 refine MpQ.new_ (fun mq Smq H14 omq nn15 le16 => ?_)
 have apfXmq : Apt pf Smq := Apt.of_nws opf.known nn15
 have au4Xmq : Apt u4 Smq := Apt.of_nws ou4.known nn15
 have apoXmq : Apt po Smq := Apt.of_nws opo.known nn15
 have nmq : Nws H Smq := nn15.le lE
 replace opf := opf.le le16
 replace ou4 := ou4.le le16
 replace opo := opo.le le16
 replace hvc := hvc.le le16
 replace lE := lE.trans le16
 refine nw_i (fun pl H17 opl nn18 le19 => ?_)
 have apfXpl : Apart pf pl := opf.apart nn18
 have au4Xpl : Apart u4 pl := ou4.apart nn18
 have apoXpl : Apart po pl := opo.apart nn18
 have amqXpl : Apt Smq pl := Apt.of_nw omq.known nn18
 have npl : Nw H pl := nn18.le lE
 replace opf := opf.le le19
 replace ou4 := ou4.le le19
 replace opo := opo.le le19
 replace omq := omq.le le19
 replace hvc := hvc.le le19
 replace lE := lE.trans le19
 replace opl : Cel H17 pl [(.map none)] := opl
 refine opl.st0 (by simp) omq.one omq.cells (fun H20 opl off21 => ?_)
 replace opf := opf.off off21 apfXpl
 replace ou4 := ou4.off off21 au4Xpl
 replace opo := opo.off off21 apoXpl
 replace omq := omq.off off21 amqXpl
 replace hvc := hvc0.le (off21.le lE npl)
 replace lE := off21.le lE npl
 replace opl : Cel H20 pl [mq] := opl
 refine nw_i (fun ft H22 oft nn23 le24 => ?_)
 have apfXft : Apart pf ft := opf.apart nn23
 have au4Xft : Apart u4 ft := ou4.apart nn23
 have apoXft : Apart po ft := opo.apart nn23
 have amqXft : Apt Smq ft := Apt.of_nw omq.known nn23
 have aplXft : Apart pl ft := opl.apart nn23
 have nft : Nw H ft := nn23.le lE
 replace opf := opf.le le24
 replace ou4 := ou4.le le24
 replace opo := opo.le le24
 replace omq := omq.le le24
 replace opl := opl.le le24
 replace hvc := hvc.le le24
 replace lE := lE.trans le24
 replace oft : Cel H22 ft [.nilFunc] := oft
 refine oft.st0 (by simp) rfl rfl (fun H25 oft off26 => ?_)
 replace opf := opf.off off26 apfXft
 replace ou4 := ou4.off off26 au4Xft
 replace opo := opo.off off26 apoXft
 replace omq := omq.off off26 amqXft
 replace opl := opl.off off26 aplXft
 replace hvc := hvc0.le (off26.le lE nft)
 replace lE := off26.le lE nft
 replace oft : Cel H25 ft [(.func (.func I.impl_Field_tree_1) #[] #[pf, ft, pl, po])] := oft
 refine ob_i (oft.ld0 rfl) ?_
 refine ob_i (opf.fa 0) ?_
 refine ob_i (opf.ld 0 rfl) ?_
 refine ⟨by kernel_rfl, ?_⟩
 refine C.tree_all (lgN r - 1) hvc0 lE opf oft opl (MpQ.cast rfl omq) opo ou4 apfXmq apfXpo apfXu4 amqXft.symm apoXft.symm au4Xft.symm amqXpl.symm apoXpl.symm au4Xpl.symm apoXmq.symm au4Xmq.symm au4Xpo.symm nmq npo nu4 hl k1 (by omega) (by omega) (by omega) (by omega) (by omega) (by omega) (by first | omega | rfl) (by first | assumption | omega) (by omega) (by first | omega | (simp only [List.length_nil]; omega)) (fun u30 H27 ou30 tm31 tp32 off28 hb29 => ?_)
 have nu30 : Nw H u30 := Nw.ap2 nu4 lE hb29
 replace omq := tm31
 replace opo := tp32
 replace hvc := hvc0.le (off28.le lE (Nws.tri npo nmq nu4))
 replace lE := off28.le lE (Nws.tri npo nmq nu4)
 refine ob_i (opo.ld0 rfl) ?_
 skip
 exact hk  u30 _ (Own.cast (show (telF c l (lgN r - 1) (0) (0) ([])).2 = treL r c l by first | rfl | simp) ou30) nu30  lE
end Go.Proofs.Ythmdmbbdjbhcoaa
/- Fields that are read back from their quarters, by plain law. -/
namespace Go.Proofs.Ythmdmbbdjbhcoaa
open HL
set_option maxRecDepth 100000
/-- The entry of a chunk. -/
def entT (t : List Int) (j : Nat) (q : Int) : Int := at_ 0 t (4 * (j : Int) + q)
def lvP (P : List (Nat × List Int)) (n : Int) : Nat := (P.getD n.toNat (0, [])).1
def clP (P : List (Nat × List Int)) (n : Int) : List Int := (P.getD n.toNat (0, [])).2
/-- The cells of a part that is made of four. -/
def makQ (P : List (Nat × List Int)) (t : List Int) (j : Nat) (h : Int) : Int → Int → Int := fun i k => at_ 0 (clP P (entT t j (i / h * 2 + k / h))) (i % h * h + k % h)
def mkP (P : List (Nat × List Int)) (t : List Int) (j : Nat) : Nat × List Int :=
  (lvP P (entT t j 0) + 1, mkL (szz (lvP P (entT t j 0) + 1)) (makQ P t j (szz (lvP P (entT t j 0)))) ((szz (lvP P (entT t j 0) + 1)).toNat * (szz (lvP P (entT t j 0) + 1)).toNat))
/-- The parts behind some chunks: levels, and cells. -/
def ptQ (t : List Int) : Nat → List (Nat × List Int)
  | 0 => [(0, [0]), (0, [1])]
  | j + 1 => ptQ t j ++ [mkP (ptQ t j) t j]
theorem ptQ_len (t : List Int) : ∀ j, (ptQ t j).length = j + 2
  | 0 => rfl
  | j + 1 => by simp [ptQ, ptQ_len t j]
theorem ptQ_get {t : List Int} {n j : Nat} (h : n < j + 2) : ∀ d, (ptQ t (j + d)).getD n (0, []) = (ptQ t j).getD n (0, [])
  | 0 => rfl
  | d + 1 => by
    show (ptQ t (j + d) ++ _).getD n (0, []) = _
    rw [← ptQ_get h d]
    simp only [List.getD_eq_getElem?_getD]
    rw [List.getElem?_append_left (by rw [ptQ_len]; omega)]
def lvT (t : List Int) (n : Int) : Nat := lvP (ptQ t n.toNat) n
def clT (t : List Int) (n : Int) : List Int := clP (ptQ t n.toNat) n
theorem lvP_T {t : List Int} {n : Int} {j : Nat} (h : n < (j : Int) + 2) : lvP (ptQ t j) n = lvT t n := by
  unfold lvT lvP
  rcases Nat.le_total j n.toNat with hh | hh
  · obtain ⟨d, hd⟩ := Nat.le.dest hh
    rw [show ptQ t n.toNat = ptQ t (j + d) by rw [hd], ptQ_get (by omega) d]
  · obtain ⟨d, hd⟩ := Nat.le.dest hh
    rw [show ptQ t j = ptQ t (n.toNat + d) by rw [hd], ptQ_get (by omega) d]
theorem clP_T {t : List Int} {n : Int} {j : Nat} (h : n < (j : Int) + 2) : clP (ptQ t j) n = clT t n := by
  unfold clT clP
  rcases Nat.le_total j n.toNat with hh | hh
  · obtain ⟨d, hd⟩ := Nat.le.dest hh
    rw [show ptQ t n.toNat = ptQ t (j + d) by rw [hd], ptQ_get (by omega) d]
  · obtain ⟨d, hd⟩ := Nat.le.dest hh
    rw [show ptQ t j = ptQ t (n.toNat + d) by rw [hd], ptQ_get (by omega) d]
theorem ptQ_new {t : List Int} {j : Nat} : (ptQ t (j + 1)).getD (j + 2) (0, []) = mkP (ptQ t j) t j := by
  show (ptQ t j ++ [_]).getD (j + 2) (0, []) = _
  simp only [List.getD_eq_getElem?_getD]
  rw [List.getElem?_append_right (by rw [ptQ_len]; omega), ptQ_len]
  simp
theorem lvT_new {t : List Int} {j : Nat} (h : entT t j 0 < (j : Int) + 2) : lvT t ((j : Int) + 2) = lvT t (entT t j 0) + 1 := by
  rw [← lvP_T (j := j + 1) (by omega)]
  unfold lvP
  rw [show ((j : Int) + 2).toNat = j + 2 by omega, ptQ_new]
  unfold mkP
  simp only
  rw [lvP_T h]
/-- The chunk is well made. -/
def okJ (t : List Int) (j : Nat) : Prop := ∀ q : Nat, q < 4 → (0 ≤ entT t j q ∧ entT t j q ≤ (j : Int) + 1) ∧ lvT t (entT t j q) = lvT t (entT t j 0) ∧ lvT t (entT t j q) ≤ 3
def okQ (t : List Int) : Prop := ∀ j : Nat, j < t.length / 4 → okJ t j
instance (t : List Int) (j : Nat) : Decidable (okJ t j) := by unfold okJ; infer_instance
instance (t : List Int) : Decidable (okQ t) := by unfold okQ; infer_instance
theorem szz_nat (e : Nat) : (szz e).toNat = 2 ^ e := by
  unfold szz
  rw [show (2 : Int) ^ e = ((2 ^ e : Nat) : Int) by simp]
  exact Int.toNat_natCast _
theorem szz_cast (e : Nat) : ((2 ^ e : Nat) : Int) = szz e := by simp [szz]
/-- The cells of a new part. -/
theorem clT_new {t : List Int} {j : Nat} (h : okJ t j) : clT t ((j : Int) + 2) = mkL (szz (lvT t (entT t j 0) + 1)) (fun i k => at_ 0 (clP (ptQ t j) (entT t j (i / szz (lvT t (entT t j 0)) * 2 + k / szz (lvT t (entT t j 0))))) (i % szz (lvT t (entT t j 0)) * szz (lvT t (entT t j 0)) + k % szz (lvT t (entT t j 0)))) ((szz (lvT t (entT t j 0) + 1)).toNat * (szz (lvT t (entT t j 0) + 1)).toNat) := by
  have h0 := (h 0 (by omega)).1.2
  rw [← clP_T (j := j + 1) (by omega)]
  unfold clP
  rw [show ((j : Int) + 2).toNat = j + 2 by omega, ptQ_new]
  unfold mkP makQ
  simp only
  rw [lvP_T (by simpa using (show entT t j ((0 : Nat) : Int) < (j : Int) + 2 by omega))]
  rfl
/-- Every part has as many cells as its level says. -/
theorem clT_lenN {t : List Int} : ∀ (N : Nat) (n : Int), (∀ i : Nat, i < N → okJ t i) → 0 ≤ n → n ≤ (N : Int) + 1 → (clT t n).length = 2 ^ lvT t n * 2 ^ lvT t n
  | 0, n, _, h0, h1 => by
    rcases show n = 0 ∨ n = 1 by omega with rfl | rfl <;> rfl
  | N + 1, n, ht, h0, h1 => by
    by_cases hn : n ≤ (N : Int) + 1
    · exact clT_lenN N n (fun i hi => ht i (by omega)) h0 hn
    · obtain rfl : n = (N : Int) + 2 := by omega
      have hj := ht N (by omega)
      rw [clT_new hj, mkL_length, szz_nat, lvT_new (by have := (hj 0 (by omega)).1.2; simp only [Int.natCast_zero] at this; omega)]
theorem clT_len {t : List Int} (ht : okQ t) (N : Nat) (n : Int) (h0 : 0 ≤ n) (h1 : n ≤ (N : Int) + 1) (h2 : N ≤ t.length / 4) : (clT t n).length = 2 ^ lvT t n * 2 ^ lvT t n :=
  clT_lenN N n (fun i hi => ht i (by omega)) h0 h1
theorem at_bndG {l : List Int} (h : ∀ x ∈ l, 0 ≤ x ∧ x ≤ 1) (i : Int) : 0 ≤ at_ 0 l i ∧ at_ 0 l i ≤ 1 := by
  unfold at_
  by_cases hi : i.toNat < l.length
  · have e : l.getD i.toNat 0 = l[i.toNat] := by simp [List.getD_eq_getElem?_getD, hi]
    rw [e]; exact h _ (List.getElem_mem hi)
  · have e : l.getD i.toNat 0 = 0 := by simp [List.getD_eq_getElem?_getD, List.getElem?_eq_none (show l.length ≤ i.toNat by omega)]
    rw [e]; omega
/-- Every part's cells are 0 or 1. -/
theorem div01 {z m : Int} (hz : 1 ≤ z) (h0 : 0 ≤ m) (h1 : m < z * 2) : m / z = 0 ∨ m / z = 1 := by
  have a := Int.ediv_nonneg h0 (show 0 ≤ z by omega)
  have b : m / z < 2 := Int.ediv_lt_of_lt_mul (by omega) (by rw [Int.mul_comm]; exact h1)
  omega
theorem at_clT01 {t : List Int} (ht : okQ t) : ∀ (N : Nat) (n x : Int), n ≤ (N : Int) + 1 → N ≤ t.length / 4 → 0 ≤ n → 0 ≤ at_ 0 (clT t n) x ∧ at_ 0 (clT t n) x ≤ 1
  | 0, n, x, h1, _, h0 => by
    rcases show n = 0 ∨ n = 1 by omega with rfl | rfl
    · exact at_bndG (show ∀ y ∈ [(0 : Int)], _ by simp) x
    · exact at_bndG (show ∀ y ∈ [(1 : Int)], _ by simp) x
  | N + 1, n, x, h1, h2, h0 => by
    by_cases hn : n ≤ (N : Int) + 1
    · exact at_clT01 ht N n x hn (by omega) h0
    · obtain rfl : n = (N : Int) + 2 := by omega
      have hj := ht N (by omega)
      rw [clT_new hj]
      refine at_bndG ?_ x
      intro y hy
      simp only [mkL, List.mem_map, List.mem_range] at hy
      obtain ⟨m, hm, rfl⟩ := hy
      have hz := szz_pos (lvT t (entT t N 0))
      have zz := szz_succ (lvT t (entT t N 0))
      generalize hs : szz (lvT t (entT t N 0)) = z at hz zz ⊢
      generalize hs2 : szz (lvT t (entT t N 0) + 1) = w at zz hm ⊢
      subst zz
      have e0 : (0 : Int) ≤ (m : Int) / (z * 2) := Int.ediv_nonneg (by omega) (by omega)
      have hzn : z.toNat * z.toNat * 4 = (z * 2).toNat * (z * 2).toNat := by
        rw [show (z * 2).toNat = z.toNat * 2 by omega]
        rw [Nat.mul_mul_mul_comm]
      have e1 : (m : Int) / (z * 2) < z * 2 := by
        apply Int.ediv_lt_of_lt_mul (by omega)
        have : ((m : Nat) : Int) < (((z * 2).toNat * (z * 2).toNat : Nat) : Int) := by exact_mod_cast hm
        rw [Int.natCast_mul, show (((z * 2).toNat : Nat) : Int) = z * 2 by omega] at this
        exact this
      have k0 : (0 : Int) ≤ (m : Int) % (z * 2) := Int.emod_nonneg _ (by omega)
      have k1 : (m : Int) % (z * 2) < z * 2 := Int.emod_lt_of_pos _ (by omega)
      have d0 := div01 hz e0 e1
      have d1 := div01 hz k0 k1
      have hq : ∃ q : Nat, q < 4 ∧ (m : Int) / (z * 2) / z * 2 + (m : Int) % (z * 2) / z = (q : Int) := ⟨((m : Int) / (z * 2) / z * 2 + (m : Int) % (z * 2) / z).toNat, by omega, by omega⟩
      obtain ⟨q, hq4, hq⟩ := hq
      rw [hq]
      have hb := (hj q hq4).1
      rw [clP_T (by omega)]
      exact at_clT01 ht N _ _ (by omega) (by omega) (by omega)
/-! What a tree that is told looks like. -/
theorem entT_app {t f : List Int} {j : Nat} {q : Int} (h : j < t.length / 4) (q0 : 0 ≤ q) (q4 : q < 4) : entT (t ++ f) j q = entT t j q := by
  unfold entT at_
  simp only [List.getD_eq_getElem?_getD]
  rw [List.getElem?_append_left (by omega)]
theorem lvT_app {t f : List Int} (ht : okQ t) : ∀ (N : Nat) (n : Int), 0 ≤ n → n ≤ (N : Int) + 1 → N ≤ t.length / 4 → lvT (t ++ f) n = lvT t n
  | 0, n, h0, h1, _ => by
    rcases show n = 0 ∨ n = 1 by omega with rfl | rfl <;> rfl
  | N + 1, n, h0, h1, h2 => by
    by_cases hn : n ≤ (N : Int) + 1
    · exact lvT_app ht N n h0 hn (by omega)
    · obtain rfl : n = (N : Int) + 2 := by omega
      have hj := (ht N (by omega) 0 (by omega)).1
      simp only [Int.natCast_zero] at hj
      have e := entT_app (f := f) (show N < t.length / 4 by omega) (show (0 : Int) ≤ 0 by omega) (by omega)
      rw [lvT_new (t := t ++ f) (by rw [e]; omega), lvT_new (t := t) (by omega), e, lvT_app ht N _ (by omega) (by omega) (by omega)]
/-- What telling keeps. -/
structure GrwQ (t t' : List Int) : Prop where
  pre : ∃ s, t' = t ++ s
  len : t'.length % 4 = 0
  ok : okQ t'
theorem GrwQ.len_le {t t' : List Int} (h : GrwQ t t') : t.length ≤ t'.length := by
  obtain ⟨s, rfl⟩ := h.pre; simp
theorem GrwQ.trans {t t' u : List Int} (h : GrwQ t t') (g : GrwQ t' u) : GrwQ t u := ⟨by
  obtain ⟨s, rfl⟩ := h.pre; obtain ⟨s', rfl⟩ := g.pre; exact ⟨s ++ s', by simp⟩, g.len, g.ok⟩
def GoodN (t : List Int) (e : Nat) (n : Int) : Prop := 0 ≤ n ∧ n < (t.length : Int) / 4 + 2 ∧ lvT t n = e
theorem GoodN.grow {t t' : List Int} {e : Nat} {n : Int} (ht : okQ t) (h : GoodN t e n) (g : GrwQ t t') : GoodN t' e n := by
  have := g.len_le
  obtain ⟨s, rfl⟩ := g.pre
  exact ⟨h.1, by have := h.2.1; omega, by rw [lvT_app ht (t.length / 4) n h.1 (by have := h.2.1; omega) (by omega)]; exact h.2.2⟩
theorem fourQ_good {g : Int → Int → List Int → Int × List Int} {h i k : Int} {t : List Int} {e : Nat} (hg : ∀ i k t, t.length % 4 = 0 → okQ t → GrwQ t (g i k t).2 ∧ GoodN (g i k t).2 e (g i k t).1) (ht : t.length % 4 = 0) (hk : okQ t) : ∀ q, GrwQ t (fourQ g h i k t q).2 ∧ ∀ n ∈ (fourQ g h i k t q).1, GoodN (fourQ g h i k t q).2 e n
  | 0 => ⟨⟨⟨[], by simp [fourQ]⟩, ht, hk⟩, by simp [fourQ]⟩
  | q + 1 => by
    obtain ⟨h1, h2⟩ := fourQ_good (h := h) (i := i) (k := k) hg ht hk q
    obtain ⟨h3, h4⟩ := hg (i + (q : Int) / 2 * h) (k + (q : Int) % 2 * h) _ h1.len h1.ok
    refine ⟨h1.trans h3, fun n hn => ?_⟩
    simp only [fourQ, List.mem_append, List.mem_singleton] at hn
    rcases hn with hn | rfl
    · exact (h2 n hn).grow h1.ok h3
    · exact h4
theorem chQ_ent {t f : List Int} {j : Nat} (h : chQ t j = f) {q : Nat} (hq : q < 4) : entT t j q = at_ 0 f q := by
  subst h
  unfold entT at_ chQ
  simp only [List.getD_eq_getElem?_getD]
  rw [show (4 * (j : Int) + (q : Int)).toNat = 4 * j + q by omega, show ((q : Int)).toNat = q by omega]
  rw [List.getElem?_take_of_lt hq, List.getElem?_drop]
theorem at_memQ {l : List Int} {q : Nat} (h : q < l.length) : at_ 0 l (q : Int) ∈ l := by
  unfold at_
  have e : l.getD (q : Int).toNat 0 = l[q] := by simp [List.getD_eq_getElem?_getD, h]
  rw [e]; exact List.getElem_mem h
theorem putQ_good {t f : List Int} {e : Nat} (ht : t.length % 4 = 0) (hk : okQ t) (hf : f.length = 4) (he : e ≤ 3) (h : ∀ n ∈ f, GoodN t e n) : GrwQ t (putQ t f).2 ∧ GoodN (putQ t f).2 (e + 1) (putQ t f).1 := by
  by_cases hx : ∃ j : Nat, j < t.length / 4 ∧ chQ t j = f
  · obtain ⟨j, hj, hp⟩ : ∃ j : Nat, (j < t.length / 4 ∧ chQ t j = f) ∧ ∀ s : Nat, s < j → ¬ (s < t.length / 4 ∧ chQ t s = f) := by
      obtain ⟨j0, h0⟩ := hx
      induction j0 using Nat.strongRecOn with
      | _ j0 ih =>
        by_cases hh : ∃ s, s < j0 ∧ s < t.length / 4 ∧ chQ t s = f
        · obtain ⟨s, hs, h1⟩ := hh; exact ih s hs h1
        · exact ⟨j0, h0, fun s hs h1 => hh ⟨s, hs, h1⟩⟩
    rw [putQ_at hj.1 hj.2 (fun s hs hc => hp s hs ⟨by omega, hc⟩)]
    refine ⟨⟨⟨[], by simp⟩, ht, hk⟩, by omega, by dsimp only; omega, ?_⟩
    have b := (hk j hj.1 0 (by omega)).1
    have e0 := chQ_ent hj.2 (q := 0) (by omega)
    simp only [Int.natCast_zero] at b e0
    dsimp only
    rw [lvT_new (by omega), e0]
    have := (h _ (at_memQ (l := f) (q := 0) (by omega))).2.2
    simp only [Int.natCast_zero] at this
    rw [this]
  · have hn : ∀ j : Nat, j < t.length / 4 → chQ t j ≠ f := fun j hj hc => hx ⟨j, hj, hc⟩
    rw [putQ_none hn]
    have ent : ∀ q : Nat, q < 4 → entT (t ++ f) (t.length / 4) q = at_ 0 f q := fun q hq => by
      unfold entT at_
      simp only [List.getD_eq_getElem?_getD]
      rw [List.getElem?_append_right (by omega)]
      congr 2
      omega
    have good : ∀ q : Nat, q < 4 → GoodN t e (at_ 0 f q) := fun q hq => h _ (at_memQ (by omega))
    have lv : ∀ q : Nat, q < 4 → lvT (t ++ f) (at_ 0 f q) = e := fun q hq => by
      have := good q hq
      rw [lvT_app hk (t.length / 4) _ this.1 (by have := this.2.1; omega) (by omega)]; exact this.2.2
    have hok : okQ (t ++ f) := fun j hj q hq => by
      by_cases hj4 : j < t.length / 4
      · obtain ⟨a, b, c⟩ := hk j hj4 q hq
        have a0 := (hk j hj4 0 (by omega)).1
        have e1 := entT_app (f := f) hj4 (show (0 : Int) ≤ (q : Int) by omega) (by omega)
        have e2 := entT_app (f := f) hj4 (show (0 : Int) ≤ 0 by omega) (by omega)
        simp only [Int.natCast_zero] at a0
        rw [e1, e2, lvT_app hk (t.length / 4) _ a.1 (by omega) (by omega), lvT_app hk (t.length / 4) _ a0.1 (by omega) (by omega)]
        exact ⟨a, b, c⟩
      · obtain rfl : j = t.length / 4 := by rw [List.length_append, hf] at hj; omega
        have e0 := ent 0 (by omega); have l0 := lv 0 (by omega)
        simp only [Int.natCast_zero] at e0 l0
        rw [ent q hq, e0, lv q hq, l0]
        have := good q hq
        exact ⟨⟨this.1, by have := this.2.1; omega⟩, rfl, he⟩
    refine ⟨⟨⟨f, rfl⟩, by simp only [List.length_append]; omega, hok⟩, by dsimp only; omega, by simp only [List.length_append]; omega, ?_⟩
    dsimp only
    have e0 := ent 0 (by omega); have l0 := lv 0 (by omega); have g0 := good 0 (by omega)
    simp only [Int.natCast_zero] at e0 l0 g0
    rw [show (t.length : Int) / 4 + 2 = ((t.length / 4 : Nat) : Int) + 2 by omega, lvT_new (by rw [e0]; have := g0.2.1; omega), e0, l0]
theorem telF_good {c : Int} {l : List Int} (hl : ∀ x, 0 ≤ at_ 0 l x ∧ at_ 0 l x ≤ 1) : ∀ e, e ≤ 4 → ∀ i k t, t.length % 4 = 0 → okQ t → GrwQ t (telF c l e i k t).2 ∧ GoodN (telF c l e i k t).2 e (telF c l e i k t).1
  | 0, _, i, k, t, ht, hk => by
    refine ⟨⟨⟨[], by simp [telF]⟩, ht, hk⟩, ?_⟩
    have := hl (i * c + k)
    refine ⟨this.1, by show at_ 0 l (i * c + k) < _; simp only [telF]; omega, ?_⟩
    show lvT t (at_ 0 l (i * c + k)) = 0
    rcases show at_ 0 l (i * c + k) = 0 ∨ at_ 0 l (i * c + k) = 1 by omega with h | h <;> rw [h] <;> rfl
  | e + 1, he, i, k, t, ht, hk => by
    obtain ⟨h1, h2⟩ := fourQ_good (h := szz e) (i := i) (k := k) (fun i k t => telF_good hl e (by omega) i k t) ht hk 4
    have h3 := fourQ_len1 (g := telF c l e) (h := szz e) (i := i) (k := k) (t := t) 4
    obtain ⟨h4, h5⟩ := putQ_good h1.len h1.ok h3 (by omega) h2
    exact ⟨h1.trans h4, h5⟩
theorem okQ_nil : okQ [] := fun j hj => absurd hj (by simp)
theorem treL_good {r c : Int} {l : List Int} (hl : ∀ x, 0 ≤ at_ 0 l x ∧ at_ 0 l x ≤ 1) : okQ (treL r c l) :=
  (telF_good hl (lgN r - 1) (by unfold lgN; split <;> (try split) <;> omega) 0 0 [] rfl okQ_nil).1.ok
/-! A field is filled. -/
/-- A part is put into a field's cells; none if levels do not fit. -/
def flQ (t : List Int) (c : Int) : Nat → Int → Int → Int → List Int → Option (List Int)
  | 0, n, i, k, L => if 1 < n then none else some (L.set (i * c + k).toNat n)
  | e + 1, n, i, k, L => if n < 2 then none else
    (((flQ t c e (at_ 0 t (4 * (n - 2) + 0)) (i + 0 / 2 * szz e) (k + 0 % 2 * szz e) L).bind
      (flQ t c e (at_ 0 t (4 * (n - 2) + 1)) (i + 1 / 2 * szz e) (k + 1 % 2 * szz e))).bind
      (flQ t c e (at_ 0 t (4 * (n - 2) + 2)) (i + 2 / 2 * szz e) (k + 2 % 2 * szz e))).bind
      (flQ t c e (at_ 0 t (4 * (n - 2) + 3)) (i + 3 / 2 * szz e) (k + 3 % 2 * szz e))
/-- The first parts of four are put. -/
def flR (t : List Int) (c : Int) (e : Nat) (n i k : Int) (L : List Int) : Nat → Option (List Int)
  | 0 => some L
  | q + 1 => (flR t c e n i k L q).bind (flQ t c e (at_ 0 t (4 * (n - 2) + (q : Int))) (i + (q : Int) / 2 * szz e) (k + (q : Int) % 2 * szz e))
theorem flQ_succ {t : List Int} {c : Int} {e : Nat} {n i k : Int} {L : List Int} (h : ¬ n < 2) : flQ t c (e + 1) n i k L = flR t c e n i k L 4 := by
  rw [flQ, if_neg h]; rfl
theorem flQ_len {t : List Int} {c : Int} : ∀ e n i k L L', flQ t c e n i k L = some L' → L'.length = L.length
  | 0, n, i, k, L, L', h => by
    unfold flQ at h; split at h
    · cases h
    · cases h; simp
  | e + 1, n, i, k, L, L', h => by
    by_cases hn : n < 2
    · rw [flQ, if_pos hn] at h; cases h
    · rw [flQ_succ hn] at h
      have : ∀ q M, flR t c e n i k L q = some M → M.length = L.length := by
        intro q
        induction q with
        | zero => intro M hM; cases hM; rfl
        | succ q ih =>
          intro M hM
          simp only [flR, Option.bind_eq_some_iff] at hM
          obtain ⟨M', h1, h2⟩ := hM
          rw [flQ_len e _ _ _ _ _ h2, ih _ h1]
      exact this 4 L' h
theorem flR_len {t : List Int} {c : Int} {e : Nat} {n i k : Int} {L : List Int} : ∀ q M, flR t c e n i k L q = some M → M.length = L.length
  | 0, M, hM => by cases hM; rfl
  | q + 1, M, hM => by
    simp only [flR, Option.bind_eq_some_iff] at hM
    obtain ⟨M', h1, h2⟩ := hM
    rw [flQ_len e _ _ _ _ _ h2, flR_len q _ h1]
/-- A list that is a part put into another. -/
structure Put (c : Int) (i k z : Int) (g : Int → Int → Int) (L L' : List Int) : Prop where
  len : L'.length = L.length
  inn : ∀ x y, 0 ≤ x → x < z → 0 ≤ y → y < z → at_ 0 L' ((i + x) * c + (k + y)) = g x y
  out : ∀ x y, 0 ≤ x → 0 ≤ y → y < c → ¬ (i ≤ x ∧ x < i + z ∧ k ≤ y ∧ y < k + z) → at_ 0 L' (x * c + y) = at_ 0 L (x * c + y)
theorem at_setG {l : List Int} {i j : Nat} {x : Int} (hi : i < l.length) : at_ 0 (l.set i x) (j : Int) = if i = j then x else at_ 0 l (j : Int) := by
  unfold at_
  simp only [List.getD_eq_getElem?_getD, Int.toNat_natCast, List.getElem?_set]
  split
  · next h => subst h; simp []
  · rfl
theorem place_inj {c x y x' y' : Int} (y0 : 0 ≤ y) (y1 : y < c) (z0 : 0 ≤ y') (z1 : y' < c) (h : x * c + y = x' * c + y') : x = x' ∧ y = y' := by
  have a := divmod (c := c) (i := x) (k := y) (by omega) y0 y1
  have b := divmod (c := c) (i := x') (k := y') (by omega) z0 z1
  rw [h] at a
  exact ⟨a.1.symm.trans b.1, a.2.symm.trans b.2⟩
theorem place_lt {c r x y : Int} (x0 : 0 ≤ x) (x1 : x < r) (y0 : 0 ≤ y) (y1 : y < c) : 0 ≤ x * c + y ∧ x * c + y < r * c := by
  have a := Int.mul_nonneg x0 (show 0 ≤ c by omega)
  have b := Int.mul_le_mul_of_nonneg_right (show x + 1 ≤ r by omega) (show 0 ≤ c by omega)
  rw [Int.add_mul, Int.one_mul] at b
  omega
theorem at_mkG {c : Int} {g : Int → Int → Int} {N : Nat} {i k : Int} (hi : 0 ≤ i) (hk : 0 ≤ k) (hkc : k < c) (h : i * c + k < N) : at_ 0 (mkL c g N) (i * c + k) = g i k := by
  have h0 := Int.mul_nonneg hi (show 0 ≤ c by omega)
  obtain ⟨j, hj⟩ : ∃ j : Nat, i * c + k = (j : Int) := ⟨(i * c + k).toNat, by omega⟩
  have d := divmod (c := c) (i := i) (k := k) (by omega) hk hkc
  rw [hj] at d ⊢
  have hl : j < (mkL c g N).length := by rw [mkL_length]; omega
  have e : at_ 0 (mkL c g N) (j : Int) = (mkL c g N)[j] := by unfold at_; simp [List.getD_eq_getElem?_getD, hl]
  rw [e]
  simp [mkL, d.1, d.2]
/-- What is put is what the part's cells say. -/
theorem flQ_put {t : List Int} {c r : Int} (ht : okQ t) (h4 : t.length % 4 = 0) : ∀ (e : Nat) (n i k : Int) (L : List Int), GoodN t e n → (L.length : Int) = r * c → 0 ≤ i → 0 ≤ k → i + szz e ≤ r → k + szz e ≤ c →
    ∃ L', flQ t c e n i k L = some L' ∧ Put c i k (szz e) (fun x y => at_ 0 (clT t n) (x * szz e + y)) L L'
  | 0, n, i, k, L, hn, hL, i0, k0, ir, kc => by
    have hs : szz 0 = 1 := rfl
    rw [hs] at ir kc ⊢
    have h2 : n = 0 ∨ n = 1 := by
      have := hn.1
      by_cases h : n ≤ 1
      · omega
      · exfalso
        obtain ⟨j, hj⟩ : ∃ j : Nat, n = (j : Int) + 2 := ⟨(n - 2).toNat, by omega⟩
        have a := hn.2.2
        have b := (ht j (by have := hn.2.1; omega) 0 (by omega)).1
        simp only [Int.natCast_zero] at b
        rw [hj, lvT_new (by omega)] at a
        omega
    have hp := place_lt (c := c) (r := r) i0 (by omega) k0 (by omega)
    refine ⟨L.set (i * c + k).toNat n, by rw [flQ, if_neg (by omega)], by simp, fun x y x0 x1 y0 y1 => ?_, fun x y x0 y0 y1 ho => ?_⟩
    · obtain rfl : x = 0 := by omega
      obtain rfl : y = 0 := by omega
      rw [Int.add_zero, Int.add_zero]
      have := at_setG (l := L) (i := (i * c + k).toNat) (j := (i * c + k).toNat) (x := n) (by omega)
      rw [show (((i * c + k).toNat : Nat) : Int) = i * c + k by omega, if_pos rfl] at this
      rw [this]
      rcases h2 with rfl | rfl <;> rfl
    · have hq : 0 ≤ x * c + y := by have := Int.mul_nonneg x0 (show 0 ≤ c by omega); omega
      have := at_setG (l := L) (i := (i * c + k).toNat) (j := (x * c + y).toNat) (x := n) (by omega)
      rw [show (((x * c + y).toNat : Nat) : Int) = x * c + y by omega, if_neg] at this
      · exact this
      · intro hc
        have := place_inj (c := c) k0 (by omega) y0 y1 (show i * c + k = x * c + y by omega)
        omega
  | e + 1, n, i, k, L, hn, hL, i0, k0, ir, kc => by
    have zz := szz_succ e
    have zp := szz_pos e
    have hn2 : 2 ≤ n := by
      by_cases h : n < 2
      · have := hn.1
        have a := hn.2.2
        rcases show n = 0 ∨ n = 1 by omega with rfl | rfl <;> cases a
      · omega
    obtain ⟨j, hj⟩ : ∃ j : Nat, n = (j : Int) + 2 := ⟨(n - 2).toNat, by omega⟩
    have hjt : j < t.length / 4 := by have := hn.2.1; omega
    have ok := ht j hjt
    have e0 := (ok 0 (by omega)).1
    simp only [Int.natCast_zero] at e0
    have hl0 : lvT t (entT t j 0) = e := by
      have a := hn.2.2
      rw [hj, lvT_new (by omega)] at a
      omega
    have good : ∀ q : Nat, q < 4 → GoodN t e (entT t j q) := fun q hq => by
      obtain ⟨a, b, _⟩ := ok q hq
      exact ⟨a.1, by omega, by rw [b, hl0]⟩
    have hd : ∀ q : Nat, q < 4 → (0 ≤ (q : Int) / 2 * szz e ∧ (q : Int) / 2 * szz e ≤ szz e) ∧ (0 ≤ (q : Int) % 2 * szz e ∧ (q : Int) % 2 * szz e ≤ szz e) := fun q hq => by
      have a : (q : Int) / 2 = 0 ∨ (q : Int) / 2 = 1 := by omega
      have b : (q : Int) % 2 = 0 ∨ (q : Int) % 2 = 1 := by omega
      rcases a with a | a <;> rcases b with b | b <;> rw [a, b] <;> simp only [Int.zero_mul, Int.one_mul] <;> omega
    have step : ∀ q : Nat, q ≤ 4 → ∃ M, flR t c e n i k L q = some M ∧ M.length = L.length ∧
        (∀ p : Nat, p < q → ∀ x y, 0 ≤ x → x < szz e → 0 ≤ y → y < szz e → at_ 0 M ((i + (p : Int) / 2 * szz e + x) * c + (k + (p : Int) % 2 * szz e + y)) = at_ 0 (clT t (entT t j p)) (x * szz e + y)) ∧
        (∀ x y, 0 ≤ x → 0 ≤ y → y < c → ¬ (i ≤ x ∧ x < i + szz (e + 1) ∧ k ≤ y ∧ y < k + szz (e + 1)) → at_ 0 M (x * c + y) = at_ 0 L (x * c + y)) := by
      intro q
      induction q with
      | zero => intro _; exact ⟨L, rfl, rfl, fun p hp => absurd hp (by omega), fun _ _ _ _ _ _ => rfl⟩
      | succ q ih =>
        intro hq
        obtain ⟨M, h1, h2, h3, h5⟩ := ih (by omega)
        have hdq := hd q (by omega)
        have gq := good q (by omega)
        obtain ⟨M', h6, h7⟩ := flQ_put ht h4 e (entT t j q) (i + (q : Int) / 2 * szz e) (k + (q : Int) % 2 * szz e) M gq (by rw [h2]; exact hL) (by omega) (by omega) (by omega) (by omega)
        have hent : at_ 0 t (4 * (n - 2) + (q : Int)) = entT t j q := by unfold entT; rw [show 4 * (n - 2) + (q : Int) = 4 * (j : Int) + (q : Int) by omega]
        refine ⟨M', by simp only [flR, h1, Option.bind_some]; rw [hent]; exact h6, h7.len.trans h2, fun p hp x y x0 x1 y0 y1 => ?_, fun x y x0 y0 y1 ho => ?_⟩
        · by_cases hpq : p = q
          · subst hpq; exact h7.inn x y x0 x1 y0 y1
          · have hdp := hd p (by omega)
            rw [h7.out _ _ (by omega) (by omega) (by omega) ?_]
            · exact h3 p (by omega) x y x0 x1 y0 y1
            · intro hc
              have a : (q : Int) / 2 = 0 ∨ (q : Int) / 2 = 1 := by omega
              have b : (q : Int) % 2 = 0 ∨ (q : Int) % 2 = 1 := by omega
              have a' : (p : Int) / 2 = 0 ∨ (p : Int) / 2 = 1 := by omega
              have b' : (p : Int) % 2 = 0 ∨ (p : Int) % 2 = 1 := by omega
              have : (p : Int) / 2 ≠ (q : Int) / 2 ∨ (p : Int) % 2 ≠ (q : Int) % 2 := by omega
              rcases a with a | a <;> rcases b with b | b <;> rcases a' with a' | a' <;> rcases b' with b' | b' <;> rw [a, b, a', b'] at hc <;> simp only [Int.zero_mul, Int.one_mul] at hc <;> omega
        · rw [h7.out _ _ x0 y0 y1 (by omega), h5 x y x0 y0 y1 ho]
    obtain ⟨M, h1, h2, h3, h5⟩ := step 4 (by omega)
    refine ⟨M, by rw [flQ_succ (by omega)]; exact h1, h2, fun x y x0 x1 y0 y1 => ?_, h5⟩
    have kx := div01 zp x0 (by omega)
    have ky := div01 zp y0 (by omega)
    have mx0 := Int.emod_nonneg x (show szz e ≠ 0 by omega)
    have mx1 := Int.emod_lt_of_pos x (show 0 < szz e by omega)
    have my0 := Int.emod_nonneg y (show szz e ≠ 0 by omega)
    have my1 := Int.emod_lt_of_pos y (show 0 < szz e by omega)
    obtain ⟨q, hq4, hqx, hqy⟩ : ∃ q : Nat, q < 4 ∧ (q : Int) / 2 = x / szz e ∧ (q : Int) % 2 = y / szz e := ⟨(x / szz e * 2 + y / szz e).toNat, by omega, by omega, by omega⟩
    have hX : x = (q : Int) / 2 * szz e + x % szz e := by rw [hqx, Int.mul_comm]; exact (Int.mul_ediv_add_emod x (szz e)).symm
    have hY : y = (q : Int) % 2 * szz e + y % szz e := by rw [hqy, Int.mul_comm]; exact (Int.mul_ediv_add_emod y (szz e)).symm
    have h := h3 q hq4 (x % szz e) (y % szz e) mx0 mx1 my0 my1
    rw [show i + (q : Int) / 2 * szz e + x % szz e = i + x by omega, show k + (q : Int) % 2 * szz e + y % szz e = k + y by omega] at h
    rw [h, hj, clT_new ok, hl0]
    have hw : x * szz (e + 1) + y < (((szz (e + 1)).toNat * (szz (e + 1)).toNat : Nat) : Int) := by
      rw [Int.natCast_mul, show (((szz (e + 1)).toNat : Nat) : Int) = szz (e + 1) by omega]
      exact (place_lt x0 x1 y0 y1).2
    have hw0 := (place_lt (r := szz (e + 1)) (c := szz (e + 1)) x0 x1 y0 y1).1
    show _ = at_ 0 (mkL _ _ _) (x * szz (e + 1) + y)
    rw [at_mkG x0 y0 y1 hw]
    have hpq : x / szz e * 2 + y / szz e = (q : Int) := by rw [← hqx, ← hqy]; omega
    rw [hpq, clP_T (by have := (ok q hq4).1.2; omega)]
/-! The whole. -/
def topT (t : List Int) : Int := (t.length : Int) / 4 + 1
def rngT (t : List Int) : Prop := ∀ j : Nat, j < t.length → 0 ≤ at_ 0 t (j : Int) ∧ at_ 0 t (j : Int) ≤ (j : Int) / 4 + 1
theorem okQ.rng {t : List Int} (h : okQ t) (h4 : t.length % 4 = 0) : rngT t := fun j hj => by
  have := (h (j / 4) (by omega) (j % 4) (by omega)).1
  unfold entT at this
  rw [show 4 * ((j / 4 : Nat) : Int) + ((j % 4 : Nat) : Int) = (j : Int) by omega] at this
  omega
theorem rngT.ent {t : List Int} (h : rngT t) {j q : Nat} (hj : j < t.length / 4) (hq : q < 4) : 0 ≤ entT t j q ∧ entT t j q ≤ (j : Int) + 1 := by
  have := h (4 * j + q) (by omega)
  unfold entT
  rw [show ((4 * j + q : Nat) : Int) = 4 * (j : Int) + (q : Int) by omega] at this
  omega
theorem flQ_bnd {t : List Int} {c : Int} (ht : rngT t) (h4 : t.length % 4 = 0) : ∀ (e : Nat) (n i k : Int) (L L' : List Int), 0 ≤ n → n < (t.length : Int) / 4 + 2 → (∀ x ∈ L, 0 ≤ x ∧ x ≤ 1) → flQ t c e n i k L = some L' → ∀ x ∈ L', 0 ≤ x ∧ x ≤ 1
  | 0, n, i, k, L, L', h0, _, hL, h => by
    unfold flQ at h; split at h
    · cases h
    · cases h
      intro x hx
      rcases List.mem_or_eq_of_mem_set hx with hx | rfl
      · exact hL x hx
      · omega
  | e + 1, n, i, k, L, L', h0, h1, hL, h => by
    by_cases hn : n < 2
    · rw [flQ, if_pos hn] at h; cases h
    · rw [flQ_succ hn] at h
      obtain ⟨j, hj⟩ : ∃ j : Nat, n = (j : Int) + 2 := ⟨(n - 2).toNat, by omega⟩
      have : ∀ q, q ≤ 4 → ∀ M, flR t c e n i k L q = some M → ∀ x ∈ M, 0 ≤ x ∧ x ≤ 1 := by
        intro q
        induction q with
        | zero => intro _ M hM; cases hM; exact hL
        | succ q ih =>
          intro hq M hM
          simp only [flR, Option.bind_eq_some_iff] at hM
          obtain ⟨M', h2, h3⟩ := hM
          have hb := ht.ent (j := j) (q := q) (by omega) (by omega)
          have hent : at_ 0 t (4 * (n - 2) + (q : Int)) = entT t j q := by unfold entT; rw [show 4 * (n - 2) + (q : Int) = 4 * (j : Int) + (q : Int) by omega]
          rw [hent] at h3
          exact flQ_bnd ht h4 e _ _ _ _ _ hb.1 (by omega) (ih (by omega) M' h2) h3
      exact this 4 (by omega) L' h
/-- A list of a square is told by its places. -/
theorem sq_ext {c : Int} {l m : List Int} (h1 : (l.length : Int) = c * c) (h2 : (m.length : Int) = c * c) (c1 : 1 ≤ c) (h : ∀ x y, 0 ≤ x → x < c → 0 ≤ y → y < c → at_ 0 l (x * c + y) = at_ 0 m (x * c + y)) : l = m := by
  apply List.ext_getElem (by omega)
  intro j a b
  have e1 := Int.emod_nonneg (j : Int) (show c ≠ 0 by omega)
  have e2 := Int.emod_lt_of_pos (j : Int) (show 0 < c by omega)
  have e3 := Int.ediv_nonneg (show (0 : Int) ≤ (j : Int) by omega) (show 0 ≤ c by omega)
  have e4 : (j : Int) / c < c := Int.ediv_lt_of_lt_mul (by omega) (by omega)
  have := h _ _ e3 e4 e1 e2
  rw [show (j : Int) / c * c + (j : Int) % c = (j : Int) by rw [Int.mul_comm]; exact Int.mul_ediv_add_emod _ _] at this
  unfold at_ at this
  simpa [List.getD_eq_getElem?_getD, a, b] using this
theorem top_good {t : List Int} (h4 : t.length % 4 = 0) : GoodN t (lvT t (topT t)) (topT t) := by
  unfold topT; exact ⟨by omega, by omega, rfl⟩
theorem top_put {t : List Int} {L : List Int} {c : Int} (ht : okQ t) (h4 : t.length % 4 = 0) (hc : c = szz (lvT t (topT t))) (hL : (L.length : Int) = c * c) : flQ t c (lvT t (topT t)) (topT t) 0 0 L = some (clT t (topT t)) := by
  have zp := szz_pos (lvT t (topT t))
  obtain ⟨L', h1, h2⟩ := flQ_put (c := c) (r := c) ht h4 _ _ 0 0 L (top_good h4) hL (by omega) (by omega) (by omega) (by omega)
  rw [h1]
  congr 1
  have hlen := clT_len ht (t.length / 4) (topT t) (by unfold topT; omega) (by unfold topT; omega) (by omega)
  refine sq_ext (c := c) (by rw [h2.len]; exact hL) (by rw [hlen, Int.natCast_mul, szz_cast, ← hc]) (by omega) (fun x y x0 x1 y0 y1 => ?_)
  have := h2.inn x y x0 (by omega) y0 (by omega)
  rw [Int.zero_add, Int.zero_add, ← hc] at this
  exact this
/-- A tree that a field has. -/
def tfP (t : List Int) : Prop := (t.length ≠ 0 ∧ t.length ≤ 1024 ∧ t.length % 4 = 0) ∧ okQ t ∧ (2 ≤ lvT t (topT t) ∧ lvT t (topT t) ≤ 4) ∧ treL (szz (lvT t (topT t))) (szz (lvT t (topT t))) (clT t (topT t)) = t
instance (t : List Int) : Decidable (tfP t) := by unfold tfP; infer_instance
theorem sz_of {e : Nat} (h : 2 ≤ e ∧ e ≤ 4) : szz e = 4 ∨ szz e = 8 ∨ szz e = 16 := by
  rcases show e = 2 ∨ e = 3 ∨ e = 4 by omega with rfl | rfl | rfl <;> decide
/-- How a size goes with a level. -/
def szR (e : Nat) (s : Int) : Prop := (e ≤ 4 ∧ s = szz e) ∨ (5 ≤ e ∧ s % 32 = 0)
theorem szR_in {e : Nat} {s : Int} (h : szR e s) (hs : s = 4 ∨ s = 8 ∨ s = 16) : s = szz e ∧ 2 ≤ e ∧ e ≤ 4 := by
  rcases h with ⟨h1, h2⟩ | ⟨h1, h2⟩
  · refine ⟨h2, ?_, h1⟩
    rcases show e = 0 ∨ e = 1 ∨ 2 ≤ e by omega with rfl | rfl | h
    · have : s = 1 := h2
      omega
    · have : s = 2 := h2
      omega
    · exact h
  · omega
theorem szR_out {e : Nat} {s : Int} (h : szR e s) (hs : ¬ (s = 4 ∨ s = 8 ∨ s = 16)) : ¬ (2 ≤ e ∧ e ≤ 4) := fun hh => by
  rcases h with ⟨h1, h2⟩ | ⟨h1, h2⟩
  · exact hs (h2 ▸ sz_of hh)
  · omega
/-- What is filled is what the tree says, when the tree is its tree. -/
theorem sq_clT {t : List Int} (ht : okQ t) (h4 : t.length % 4 = 0) (he : 2 ≤ lvT t (topT t) ∧ lvT t (topT t) ≤ 4) : sqP (szz (lvT t (topT t))) (szz (lvT t (topT t))) (clT t (topT t)) := by
  have hlen := clT_len ht (t.length / 4) (topT t) (by unfold topT; omega) (by unfold topT; omega) (by omega)
  have hs := sz_of he
  refine ⟨⟨⟨by omega, by omega⟩, by rw [hlen, Int.natCast_mul, szz_cast], fun x hx => ?_⟩, rfl, hs⟩
  obtain ⟨j, hj, rfl⟩ := List.getElem_of_mem hx
  have := at_clT01 ht (t.length / 4) (topT t) (j : Int) (by unfold topT; omega) (by omega) (by unfold topT; omega)
  unfold at_ at this
  simpa [List.getD_eq_getElem?_getD, hj] using this
theorem fill_tf {t L L' : List Int} {s : Int} (h0 : t.length ≠ 0 ∧ t.length ≤ 1024 ∧ t.length % 4 = 0) (hs : s = szz (lvT t (topT t))) (he : 2 ≤ lvT t (topT t) ∧ lvT t (topT t) ≤ 4) (hL : (L.length : Int) = s * s) (hf : flQ t s (lvT t (topT t)) (topT t) 0 0 L = some L') (h01 : ∀ x ∈ L', 0 ≤ x ∧ x ≤ 1) (htr : treL s s L' = t) : tfP t ∧ L' = clT t (topT t) := by
  have hok : okQ t := htr ▸ treL_good (fun x => at_bndG h01 x)
  have := top_put hok h0.2.2 hs hL
  rw [hf] at this
  have e := Option.some.inj this
  exact ⟨⟨h0, hok, he, by rw [← hs, ← e]; exact htr⟩, e⟩
theorem fill_no {t L L' : List Int} {s : Int} (h0 : t.length % 4 = 0) (hs : s = szz (lvT t (topT t))) (hL : (L.length : Int) = s * s) (hf : flQ t s (lvT t (topT t)) (topT t) 0 0 L = some L') (htr : ¬ treL s s L' = t) : ¬ tfP t := fun h => by
  have := top_put h.2.1 h0 hs hL
  rw [hf] at this
  have e := Option.some.inj this
  exact htr (by rw [e, hs]; exact h.2.2.2)
theorem fill_none {t L : List Int} {s : Int} (h0 : t.length % 4 = 0) (hs : s = szz (lvT t (topT t))) (hL : (L.length : Int) = s * s) (hf : flQ t s (lvT t (topT t)) (topT t) 0 0 L = none) : ¬ tfP t := fun h => by
  have := top_put h.2.1 h0 hs hL
  rw [hf] at this
  cases this
theorem lvT_first {t : List Int} (h : rngT t) {n : Int} (h2 : 2 ≤ n) (hn : n < (t.length : Int) / 4 + 2) : lvT t n = lvT t (at_ 0 t (4 * (n - 2))) + 1 ∧ 0 ≤ at_ 0 t (4 * (n - 2)) ∧ at_ 0 t (4 * (n - 2)) ≤ n - 1 := by
  obtain ⟨j, hj⟩ : ∃ j : Nat, n = (j : Int) + 2 := ⟨(n - 2).toNat, by omega⟩
  have a := h.ent (j := j) (q := 0) (by omega) (by omega)
  simp only [Int.natCast_zero] at a
  have e : at_ 0 t (4 * (n - 2)) = entT t j 0 := by unfold entT; rw [show 4 * (n - 2) = 4 * (j : Int) + 0 by omega]
  rw [e]
  refine ⟨?_, by omega, by omega⟩
  rw [hj]
  exact lvT_new (by omega)
theorem lvT_low {t : List Int} {n : Int} (h0 : 0 ≤ n) (h : n ≤ 1) : lvT t n = 0 := by
  rcases show n = 0 ∨ n = 1 by omega with rfl | rfl <;> rfl
end Go.Proofs.Ythmdmbbdjbhcoaa
/- The reference's reading of a tree: sizes, and filling. -/
namespace Go.Proofs.Ythmdmbbdjbhcoaa
open HL
set_option maxRecDepth 100000
set_option linter.unusedVariables false
theorem Off.tr {w : Value} {H1 H2 H3 : Hp} (h : Off w H1 H2) (g : Off w H2 H3) : Off w H1 H3 := fun b o hb hv => g b o (h b o hb hv) hv
theorem vMulT (a b : Int) : vInt .mul (.int .i64 a) (.int .i64 b) = some (.int .i64 (IntKind.i64.wrap (a * b))) := by simp only [vInt, if_true]
theorem szR_next {e : Nat} {s : Int} (h : szR e s) : szR (e + 1) (IntKind.i64.wrap (s * 2)) := by
  rcases h with ⟨h1, h2⟩ | ⟨h1, h2⟩
  · have zz := szz_succ e
    have hb : szz e ≤ 16 := by
      rcases show e = 0 ∨ e = 1 ∨ e = 2 ∨ e = 3 ∨ e = 4 by omega with rfl | rfl | rfl | rfl | rfl <;> decide
    have hp := szz_pos e
    rw [h2, wrap64 (by omega) (by omega), zz]
    by_cases h4 : e ≤ 3
    · exact .inl ⟨by omega, rfl⟩
    · obtain rfl : e = 4 := by omega
      exact .inr ⟨by omega, by decide⟩
  · refine .inr ⟨by omega, ?_⟩
    unfold IntKind.wrap
    simp [IntKind.signed, IntKind.bits]
    omega
theorem C.spec_l05Size {vt : Value} {t : List Int} {n0 : Int} {H : Hp} {K : Value → Hp → Prop} (ht : Sl eI H vt t) (hr : rngT t) (h4 : t.length % 4 = 0) (h1 : t.length ≤ 1024) (a0 : 0 ≤ n0) (a1 : n0 < (t.length : Int) / 4 + 2)
    (hk : ∀ s, szR (lvT t n0) s → K (.int .i64 s) H) : HT prg I.spec_l05Size [vt, .int .i64 n0].toArray H K := by
 refine R.spec_l05Size ?_
 unfold F.spec_l05Size
 refine jn_i (fun σ' H' => ∃ s, σ' 5 = .int .i64 s ∧ szR (lvT t n0) s ∧ H' = H) (fun σ1 H1 hP => ?_) (fun J1 hJ1 => ?_)
 ·obtain ⟨s, g, hs, rfl⟩ := hP
  rw [g]
  exact hk s hs
 refine ⟨fun m σ' H' => ∃ n s d, m = n.toNat ∧ 0 ≤ n ∧ n < (t.length : Int) / 4 + 2 ∧ lvT t n0 = lvT t n + d ∧ szR d s ∧ σ' 0 = vt ∧ σ' 1 = .int .i64 n ∧ σ' 5 = .int .i64 s ∧ H' = H,
  ⟨_, n0, 1, 0, rfl, a0, a1, rfl, .inl ⟨by omega, rfl⟩, rfl, rfl, rfl, rfl⟩, ?_⟩
 rintro m σ H2 ⟨n, s, d, rfl, b0, b1, hl, hs, g0, g1, g5, rfl⟩
 simp only [g0, g1, g5]
 refine ob_i (vInt_gtr _ _ _) ?_
 refine cnd_d (fun hlt => ?_) (fun hge => ?_)
 ·have f := lvT_first hr (show 2 ≤ n by omega) b1
  refine ob_i (vInt_sub (by omega) (by omega)) ?_
  refine ob_i (vInt_mul (by omega) (by omega)) ?_
  refine ob_i (ht.ix (by omega) (by omega)) ?_
  refine ob_i (ht.ld 0 (by omega) (by omega)) ?_
  refine ob_i (vMulT _ _) ?_
  exact nxt _ (by omega) ⟨at_ 0 t (4 * (n - 2)), IntKind.i64.wrap (s * 2), d + 1, rfl, f.2.1, by omega, by omega, szR_next hs, g0, rfl, rfl, rfl⟩
 ·have z := lvT_low (t := t) b0 (by omega)
  rw [z, Nat.zero_add] at hl
  exact hJ1 _ _ ⟨s, g5, hl ▸ hs, rfl⟩
def FillP (e : Nat) : Prop := ∀ {p vc vt : Value} {r c n i k z : Int} {L t : List Int} {H H1 : Hp} {K : Value → Hp → Prop}, Sl eI H vt t → Le H H1 → Cel H1 p [.int .i64 r, .int .i64 c, vc] → Own eI H1 vc L → Apart p vc → Nw H vc → rngT t → t.length % 4 = 0 → t.length ≤ 1024 → (L.length : Int) = r * c → r ≤ 16 → c ≤ 16 → 0 ≤ n → n < (t.length : Int) / 4 + 2 → 0 ≤ i → 0 ≤ k → i + z ≤ r → k + z ≤ c → z = szz e → e ≤ 4 →
  (∀ L' H', flQ t c e n i k L = some L' → Own eI H' vc L' → Off vc H1 H' → K (.bool true) H') →
  (∀ L' H', flQ t c e n i k L = none → Own eI H' vc L' → L'.length = L.length → Off vc H1 H' → K (.bool false) H') →
  HT prg I.spec_l05Fill [p, vt, .int .i64 n, .int .i64 i, .int .i64 k, .int .i64 z].toArray H1 K
theorem fill_sq {t L L' : List Int} {s : Int} (hr : rngT t) (h4 : t.length % 4 = 0) (hs : s = szz (lvT t (topT t))) (he : 2 ≤ lvT t (topT t) ∧ lvT t (topT t) ≤ 4) (hL : (L.length : Int) = s * s) (h01 : ∀ x ∈ L, 0 ≤ x ∧ x ≤ 1) (hf : flQ t s (lvT t (topT t)) (topT t) 0 0 L = some L') : sqP s s L' := by
  have h := sz_of he
  refine ⟨⟨⟨by omega, by omega⟩, by rw [flQ_len _ _ _ _ _ _ hf]; exact hL, flQ_bnd hr h4 _ _ _ _ _ _ (by unfold topT; omega) (by unfold topT; omega) h01 hf⟩, rfl, by omega⟩
theorem rng_snoc {t : List Int} {i : Nat} (h : ∀ j : Nat, j < i → 0 ≤ at_ 0 t (j : Int) ∧ at_ 0 t (j : Int) ≤ (j : Int) / 4 + 1) (h2 : 0 ≤ at_ 0 t (i : Int) ∧ at_ 0 t (i : Int) ≤ (i : Int) / 4 + 1) : ∀ j : Nat, j < i + 1 → 0 ≤ at_ 0 t (j : Int) ∧ at_ 0 t (j : Int) ≤ (j : Int) / 4 + 1 := fun j hj => by
  by_cases e : j = i
  · subst e; exact h2
  · exact h j (by omega)
theorem tre_len {r c : Int} {l : List Int} (h : sqP r c l) : (treL r c l).length ≤ 1000 := by
  have := treP_len (r := r) (c := c) (l := l)
  rwa [selL_t h] at this
theorem C.fill0 : FillP 0 := by
 intro p vc vt r c n i k z L t H H1 K hvt0 l0 op ovc apXvc nvc hr h4 ht hL hrr hcc n0 n1 i0 k0 iz kz hz he hk hx
 have hz1 : z = 1 := hz
 have ic0 := Int.mul_nonneg i0 (show 0 ≤ c by omega)
 have ic1 := Int.mul_le_mul_of_nonneg_right (show i + 1 ≤ r by omega) (show 0 ≤ c by omega)
 rw [Int.add_mul, Int.one_mul] at ic1
 have hrc : r * c ≤ 256 := by
  have a := Int.mul_le_mul_of_nonneg_right hrr (show 0 ≤ c by omega)
  omega
 refine R.spec_l05Fill ?_
 unfold F.spec_l05Fill
 refine ob_i (vInt_eql _ _ _) ?_
 refine cnd_d (fun hg => ?_) (fun hg => ?_)
 ·refine ob_i (vInt_gtr _ _ _) ?_
  refine cnd_d (fun hn => ?_) (fun hn => ?_)
  ·exact hx L _ (by rw [flQ, if_pos hn]) ovc rfl Off.refl
  ·refine ob_i op.nilC ?_
   refine ob_i (op.fa 2) ?_
   refine ob_i (op.ld 2 rfl) ?_
   refine ob_i op.nilC ?_
   refine ob_i (op.fa 1) ?_
   refine ob_i (op.ld 1 rfl) ?_
   refine ob_i (vInt_mul (by omega) (by omega)) ?_
   refine ob_i (vInt_add (by omega) (by omega)) ?_
   refine ob_i (ovc.sl.ix (by omega) (by omega)) ?_
   refine ovc.st (x := n) (by omega) (by omega) rfl rfl (fun H2 ovc off => ?_)
   exact hk _ _ (by rw [flQ, if_neg hn]) ovc off
 ·exact absurd hz1 hg
theorem C.fillS {e : Nat} (ih : FillP e) : FillP (e + 1) := by
 intro p vc vt r c n i k z L t H H1 K hvt0 l0 op ovc apXvc nvc hr h4 ht hL hrr hcc n0 n1 i0 k0 iz kz hz he hk hx
 have zz := szz_succ e
 have zp := szz_pos e
 have hL2 : ∀ q M, flR t c e n i k L q = some M → M.length = L.length := flR_len
 refine R.spec_l05Fill ?_
 unfold F.spec_l05Fill
 refine ob_i (vInt_eql _ _ _) ?_
 refine cnd_d (fun hg => ?_) (fun hg => ?_)
 ·exfalso; omega
 refine ob_i (vInt_lss _ _ _) ?_
 refine cnd_d (fun hn => ?_) (fun hn => ?_)
 ·exact hx L _ (by rw [flQ, if_pos hn]) ovc rfl Off.refl
 refine ob_i (vInt_quoN (by omega) (by omega) (by omega)) ?_
 rw [flQ_succ hn] at hk hx
 have hh : z / 2 = szz e := by rw [hz]; exact szz_half e
 rw [hh]
 refine jn_i (fun σ' H' => ∃ M, flR t c e n i k L 4 = some M ∧ Own eI H' vc M ∧ Off vc H1 H') (fun σ1 H2 hP => ?_) (fun J1 hJ1 => ?_)
 ·obtain ⟨M, h1, h2, h3⟩ := hP
  exact hk M _ h1 h2 h3
 refine ⟨fun m σ' H' => ∃ q : Nat, m = 4 - q ∧ q ≤ 4 ∧ ∃ M, σ' 0 = p ∧ σ' 1 = vt ∧ σ' 2 = .int .i64 n ∧ σ' 3 = .int .i64 i ∧ σ' 4 = .int .i64 k ∧ σ' 13 = .int .i64 (szz e) ∧ σ' 14 = .int .i64 (q : Int) ∧ flR t c e n i k L q = some M ∧ Own eI H' vc M ∧ Off vc H1 H',
  ⟨_, 0, rfl, by omega, L, rfl, rfl, rfl, rfl, rfl, rfl, rfl, rfl, ovc, Off.refl⟩, ?_⟩
 rintro m σ H2 ⟨q, rfl, hq, M, g0, g1, g2, g3, g4, g13, g14, hM, ovc, off⟩
 have lE := off.le l0 nvc
 have hvt := hvt0.le lE
 replace op := op.off off apXvc
 simp only [g0, g1, g2, g3, g4, g13, g14]
 refine ob_i (vInt_lss _ _ _) ?_
 refine cnd_d (fun hlt => ?_) (fun hge => ?_)
 ·obtain ⟨j, hj⟩ : ∃ j : Nat, n = (j : Int) + 2 := ⟨(n - 2).toNat, by omega⟩
  have hb := hr.ent (j := j) (q := q) (by omega) (by omega)
  have hent : at_ 0 t (4 * (n - 2) + (q : Int)) = entT t j q := by unfold entT; rw [show 4 * (n - 2) + (q : Int) = 4 * (j : Int) + (q : Int) by omega]
  have hb16 : szz e ≤ 16 := by
   rcases show e = 0 ∨ e = 1 ∨ e = 2 ∨ e = 3 by omega with rfl | rfl | rfl | rfl <;> decide
  have hq2 : 0 ≤ (q : Int) / 2 * szz e ∧ (q : Int) / 2 * szz e ≤ szz e := by
   have : (q : Int) / 2 = 0 ∨ (q : Int) / 2 = 1 := by omega
   rcases this with h' | h' <;> rw [h'] <;> omega
  have hq3 : 0 ≤ (q : Int) % 2 * szz e ∧ (q : Int) % 2 * szz e ≤ szz e := by
   have : (q : Int) % 2 = 0 ∨ (q : Int) % 2 = 1 := by omega
   rcases this with h' | h' <;> rw [h'] <;> omega
  refine ob_i (vInt_sub (by omega) (by omega)) ?_
  refine ob_i (vInt_mul (by omega) (by omega)) ?_
  refine ob_i (vInt_add (by omega) (by omega)) ?_
  refine ob_i (hvt.ix (by omega) (by omega)) ?_
  refine ob_i (hvt.ld 0 (by omega) (by omega)) ?_
  refine ob_i (vInt_quoN (by omega) (by omega) (by omega)) ?_
  refine ob_i (vInt_mul (by omega) (by omega)) ?_
  refine ob_i (vInt_add (by omega) (by omega)) ?_
  refine ob_i (vInt_remN (by omega) (by omega)) ?_
  refine ob_i (vInt_mul (by omega) (by omega)) ?_
  refine ob_i (vInt_add (by omega) (by omega)) ?_
  have hstep : flR t c e n i k L (q + 1) = flQ t c e (at_ 0 t (4 * (n - 2) + (q : Int))) (i + (q : Int) / 2 * szz e) (k + (q : Int) % 2 * szz e) M := by simp only [flR, hM, Option.bind_some]
  refine ih hvt0 lE op ovc apXvc nvc hr h4 ht (by rw [hL2 q M hM]; exact hL) hrr hcc (by omega) (by omega) (by omega) (by omega) (by omega) (by omega) rfl (by omega) (fun M' H3 h1 ovc off2 => ?_) (fun M' H3 h1 ovc hl off2 => ?_)
  ·refine ob_i (vUn_not _) ?_
   refine cnd_f1 ?_
   refine ob_i (vInt_add (by omega) (by omega)) ?_
   exact nxt (4 - (q + 1)) (by omega) ⟨q + 1, rfl, by omega, M', g0, g1, g2, g3, g4, g13, congrArg (Value.int .i64) (by omega), hstep.trans h1, ovc, Off.tr off off2⟩
  ·refine ob_i (vUn_not _) ?_
   refine cnd_t1 ?_
   have none4 : ∀ d, flR t c e n i k L (q + 1 + d) = none := by
    intro d
    induction d with
    | zero => exact hstep.trans h1
    | succ d ihd => show (flR t c e n i k L (q + 1 + d)).bind _ = none; rw [ihd]; rfl
   have h4n := none4 (3 - q)
   rw [show q + 1 + (3 - q) = 4 by omega] at h4n
   refine retK (K := K) (v' := .bool false) rfl ?_
   exact hx M' _ h4n ovc (by rw [hl, hL2 q M hM]) (Off.tr off off2)
 ·obtain rfl : q = 4 := by omega
  exact hJ1 _ _ ⟨M, hM, ovc, off⟩
theorem C.fill_all : ∀ e, FillP e
  | 0 => C.fill0
  | e + 1 => C.fillS (C.fill_all e)
end Go.Proofs.Ythmdmbbdjbhcoaa
/- Fields that are read back from their quarters. -/
namespace Go.Proofs.Ythmdmbbdjbhcoaa
open HL
set_option maxRecDepth 100000
theorem C.spec_FieldOfTree {vt : Value} {t : List Int}  {H : Hp} {K : Value → Hp → Prop} (hvt0 : Sl eI H vt t) (k1 : t.length ≤ 9223372036854775807)
    (hk : ∀ u1 H', Own eI H' u1 (selL (tfP t) (clT t (topT t))) → Nw H u1 → Le H H' → K (.tuple #[(.agg #[(.int .i64 (selI (tfP t) (szz (lvT t (topT t))))), (.int .i64 (selI (tfP t) (szz (lvT t (topT t))))), u1]), (.bool (decide (tfP t)))]) H') : HT prg I.spec_FieldOfTree [vt].toArray H K := by
 have lE := Le.refl H
 have hvt := hvt0
 refine R.spec_FieldOfTree ?_
 unfold F.spec_FieldOfTree
 refine nw_i (fun p1 H2 op1 nn3 le4 => ?_)
 have np1 : Nw H p1 := nn3.le lE
 replace hvt := hvt.le le4
 replace lE := lE.trans le4
 replace op1 : Cel H2 p1 [(.int .i64 (0)), (.int .i64 (0)), (.slice none 0 0)] := op1
 refine ob_i (hvt.len) ?_
 refine ob_i (vInt_lss _ _ _) ?_
 by_cases hc5 : (((t).length : Int)) < 4
 ·skip
  refine gop_e (decide_eq_true hc5) ?_
  refine gop_st ?_
  refine gop_e (decide_eq_true hc5) ?_
  refine gop_st ?_
  refine ob_i (vPick_et (decide_eq_true hc5) _ _) ?_
  refine gop_st ?_
  refine gop_st ?_
  refine gop_st ?_
  refine ob_i (vPick_t _ _) ?_
  refine cnd_t1 ?_
  refine ob_i (a := (.agg #[(.int .i64 (0)), (.int .i64 (0)), (.slice none 0 0)])) (by rfl) ?_
  refine op1.stn (ws := [(.int .i64 (0)), (.int .i64 (0)), (.slice none 0 0)]) rfl rfl (oc1 rfl (oc1 rfl (oc1 rfl oc0))) (fun H6 op1 off7 => ?_)
  replace hvt := hvt0.le (off7.le lE np1)
  replace lE := off7.le lE np1
  replace op1 : Cel H6 p1 [(.int .i64 (0)), (.int .i64 (0)), (.slice none 0 0)] := op1
  refine ob_i (op1.ldn rfl) ?_
  skip
  have hok : ¬ (tfP t) := by intro h; have h0 := h.1; first | (exfalso; omega) | exact absurd h.2.2.1 (szR_out hsz (by omega)) | exact absurd h (fill_none h0.2.2 hse.1 hL0 hfl) | exact absurd h (fill_no h0.2.2 hse.1 hL0 hfl (by assumption))
  exact keq (K := K) (by rw [show ((selI (tfP t) (szz (lvT t (topT t)))) : Int) = (0) from by first | exact selI_f hok | (rw [selI_t hok]; first | exact hse.1.symm | exact hse.1)]; rw [decide_eq_false (show ¬ (tfP t) from by exact hok)]) (hk  (.slice none 0 0) _ (Own.cast (show [] = selL (tfP t) (clT t (topT t)) by exact (selL_f hok).symm) (Own.nil_of none)) (fun b hb => by simp [bk] at hb)  lE)
 ·skip
  refine gop_e (decide_eq_false hc5) ?_
  refine gop_rf ?_
  refine gop_e (decide_eq_false hc5) ?_
  refine gop_rf ?_
  refine ob_i (vInt_gtr _ _ _) ?_
  refine ob_i (vPick_ef (decide_eq_false hc5) _ _) ?_
  by_cases hc8 : 1024 < (((t).length : Int))
  ·skip
   refine gop_e (decide_eq_true hc8) ?_
   refine gop_st ?_
   refine gop_e (decide_eq_true hc8) ?_
   refine gop_st ?_
   refine gop_e (decide_eq_true hc8) ?_
   refine gop_st ?_
   refine ob_i (vPick_et (decide_eq_true hc8) _ _) ?_
   refine cnd_t1 ?_
   refine ob_i (a := (.agg #[(.int .i64 (0)), (.int .i64 (0)), (.slice none 0 0)])) (by rfl) ?_
   refine op1.stn (ws := [(.int .i64 (0)), (.int .i64 (0)), (.slice none 0 0)]) rfl rfl (oc1 rfl (oc1 rfl (oc1 rfl oc0))) (fun H9 op1 off10 => ?_)
   replace hvt := hvt0.le (off10.le lE np1)
   replace lE := off10.le lE np1
   replace op1 : Cel H9 p1 [(.int .i64 (0)), (.int .i64 (0)), (.slice none 0 0)] := op1
   refine ob_i (op1.ldn rfl) ?_
   skip
   have hok : ¬ (tfP t) := by intro h; have h0 := h.1; first | (exfalso; omega) | exact absurd h.2.2.1 (szR_out hsz (by omega)) | exact absurd h (fill_none h0.2.2 hse.1 hL0 hfl) | exact absurd h (fill_no h0.2.2 hse.1 hL0 hfl (by assumption))
   exact keq (K := K) (by rw [show ((selI (tfP t) (szz (lvT t (topT t)))) : Int) = (0) from by first | exact selI_f hok | (rw [selI_t hok]; first | exact hse.1.symm | exact hse.1)]; rw [decide_eq_false (show ¬ (tfP t) from by exact hok)]) (hk  (.slice none 0 0) _ (Own.cast (show [] = selL (tfP t) (clT t (topT t)) by exact (selL_f hok).symm) (Own.nil_of none)) (fun b hb => by simp [bk] at hb)  lE)
  ·skip
   refine gop_e (decide_eq_false hc8) ?_
   refine gop_rf ?_
   refine gop_e (decide_eq_false hc8) ?_
   refine gop_rf ?_
   refine ob_i (vInt_remN (by omega) (by omega)) ?_
   refine gop_e (decide_eq_false hc8) ?_
   refine gop_rf ?_
   refine ob_i (vInt_neq _ _ _) ?_
   refine ob_i (vPick_ef (decide_eq_false hc8) _ _) ?_
   refine cnd_d (fun hg11 => ?_) (fun hg11 => ?_)
   ·skip
    refine ob_i (a := (.agg #[(.int .i64 (0)), (.int .i64 (0)), (.slice none 0 0)])) (by rfl) ?_
    refine op1.stn (ws := [(.int .i64 (0)), (.int .i64 (0)), (.slice none 0 0)]) rfl rfl (oc1 rfl (oc1 rfl (oc1 rfl oc0))) (fun H12 op1 off13 => ?_)
    replace hvt := hvt0.le (off13.le lE np1)
    replace lE := off13.le lE np1
    replace op1 : Cel H12 p1 [(.int .i64 (0)), (.int .i64 (0)), (.slice none 0 0)] := op1
    refine ob_i (op1.ldn rfl) ?_
    skip
    have hok : ¬ (tfP t) := by intro h; have h0 := h.1; first | (exfalso; omega) | exact absurd h.2.2.1 (szR_out hsz (by omega)) | exact absurd h (fill_none h0.2.2 hse.1 hL0 hfl) | exact absurd h (fill_no h0.2.2 hse.1 hL0 hfl (by assumption))
    exact keq (K := K) (by rw [show ((selI (tfP t) (szz (lvT t (topT t)))) : Int) = (0) from by first | exact selI_f hok | (rw [selI_t hok]; first | exact hse.1.symm | exact hse.1)]; rw [decide_eq_false (show ¬ (tfP t) from by exact hok)]) (hk  (.slice none 0 0) _ (Own.cast (show [] = selL (tfP t) (clT t (topT t)) by exact (selL_f hok).symm) (Own.nil_of none)) (fun b hb => by simp [bk] at hb)  lE)
   ·skip
    refine jn_i (fun σ' H' => σ' 0 = vt ∧ σ' 2 = p1 ∧ σ' 4 = (.int .i64 (((t).length : Int))) ∧ Cel H' p1 [(.int .i64 (0)), (.int .i64 (0)), (.slice none 0 0)] ∧ Le H H' ∧ rngT t) (fun σ14 H14 hP => ?_) (fun J14 hJ14 => ?_)
    ·skip
     obtain ⟨g0L14, g2L14, g4L14, op1, lE, hrg⟩ := hP
     have hvt := hvt0.le lE
     try simp only [g0L14, g2L14, g4L14]
     refine ob_i (vInt_quoN (by omega) (by omega) (by omega)) ?_
     refine ob_i (vInt_add (by omega) (by omega)) ?_
     refine C.spec_l05Size (n0 := topT t) hvt hrg (by omega) (by omega) (by unfold topT; omega) (by unfold topT; omega) (fun s15 hsz => ?_)
     refine ob_i (vInt_neq _ _ _) ?_
     by_cases hc16 : s15 ≠ 4
     ·skip
      refine gop_e (decide_eq_true hc16) ?_
      refine gop_rt ?_
      refine gop_e (decide_eq_true hc16) ?_
      refine gop_rt ?_
      refine ob_i (vInt_neq _ _ _) ?_
      refine ob_i (vPick_et (decide_eq_true hc16) _ _) ?_
      by_cases hc17 : s15 ≠ 8
      ·skip
       refine gop_e (decide_eq_true hc17) ?_
       refine gop_rt ?_
       refine gop_e (decide_eq_true hc17) ?_
       refine gop_rt ?_
       refine ob_i (vInt_neq _ _ _) ?_
       refine ob_i (vPick_et (decide_eq_true hc17) _ _) ?_
       refine cnd_d (fun hg18 => ?_) (fun hg18 => ?_)
       ·skip
        refine ob_i (a := (.agg #[(.int .i64 (0)), (.int .i64 (0)), (.slice none 0 0)])) (by rfl) ?_
        refine op1.stn (ws := [(.int .i64 (0)), (.int .i64 (0)), (.slice none 0 0)]) rfl rfl (oc1 rfl (oc1 rfl (oc1 rfl oc0))) (fun H19 op1 off20 => ?_)
        replace hvt := hvt0.le (off20.le lE np1)
        replace lE := off20.le lE np1
        replace op1 : Cel H19 p1 [(.int .i64 (0)), (.int .i64 (0)), (.slice none 0 0)] := op1
        refine ob_i (op1.ldn rfl) ?_
        skip
        have hok : ¬ (tfP t) := by intro h; have h0 := h.1; first | (exfalso; omega) | exact absurd h.2.2.1 (szR_out hsz (by omega)) | exact absurd h (fill_none h0.2.2 hse.1 hL0 hfl) | exact absurd h (fill_no h0.2.2 hse.1 hL0 hfl (by assumption))
        exact keq (K := K) (by rw [show ((selI (tfP t) (szz (lvT t (topT t)))) : Int) = (0) from by first | exact selI_f hok | (rw [selI_t hok]; first | exact hse.1.symm | exact hse.1)]; rw [decide_eq_false (show ¬ (tfP t) from by exact hok)]) (hk  (.slice none 0 0) _ (Own.cast (show [] = selL (tfP t) (clT t (topT t)) by exact (selL_f hok).symm) (Own.nil_of none)) (fun b hb => by simp [bk] at hb)  lE)
       ·skip
        refine C.spec_l04New (by first | omega | assumption) (by first | omega | assumption) (by first | omega | assumption) (by first | omega | assumption) (fun  u23 H21 ou23 nn24  le22 => ?_)
        have ap1Xu23 : Apart p1 u23 := op1.apart nn24
        have nu23 : Nw H u23 := nn24.le lE
        replace op1 := op1.le le22
        replace hvt := hvt.le le22
        replace lE := lE.trans le22
        refine nw_i (fun p25 H26 op25 nn27 le28 => ?_)
        have ap1Xp25 : Apart p1 p25 := op1.apart nn27
        have au23Xp25 : Apart u23 p25 := ou23.apart nn27
        have np25 : Nw H p25 := nn27.le lE
        replace op1 := op1.le le28
        replace ou23 := ou23.le le28
        replace hvt := hvt.le le28
        replace lE := lE.trans le28
        replace op25 : Cel H26 p25 [(.int .i64 (0)), (.int .i64 (0)), (.slice none 0 0)] := op25
        refine op25.stn (ws := [(.int .i64 (s15)), (.int .i64 (s15)), u23]) rfl rfl (oc1 rfl (oc1 rfl (oc1 ou23.one oc0))) (fun H29 op25 off30 => ?_)
        replace op1 := op1.off off30 ap1Xp25
        replace ou23 := ou23.off off30 au23Xp25
        replace hvt := hvt0.le (off30.le lE np25)
        replace lE := off30.le lE np25
        replace op25 : Cel H29 p25 [(.int .i64 (s15)), (.int .i64 (s15)), u23] := op25
        have hse := szR_in hsz (by omega)
        have hs4 := sz_of hse.2
        have hL0 : ((List.replicate ((s15 : Int).toNat * (s15 : Int).toNat) 0 : List Int).length : Int) = s15 * s15 := by rw [List.length_replicate, Int.natCast_mul, Int.toNat_of_nonneg (by omega)]
        have hL1 : ∀ x ∈ (List.replicate ((s15 : Int).toNat * (s15 : Int).toNat) 0 : List Int), (0 : Int) ≤ x ∧ x ≤ 1 := fun x hx => by rw [List.eq_of_mem_replicate hx]; omega
        refine C.fill_all (lvT t (topT t)) (n := topT t) hvt0 lE op25 ou23 au23Xp25.symm nu23 hrg (by omega) (by omega) hL0 (by omega) (by omega) (by unfold topT; omega) (by unfold topT; omega) (by omega) (by omega) (by omega) (by omega) hse.1 hse.2.2 (fun M32 H31 hfl ou23 off33 => ?_) (fun M35 H34 hfl ou23 hfn off36 => ?_)
        ·skip
         replace op1 := op1.off off33 ap1Xu23
         replace op25 := op25.off off33 au23Xp25.symm
         replace hvt := hvt0.le (off33.le lE nu23)
         replace lE := off33.le lE nu23
         have hsq := fill_sq hrg (by omega) hse.1 hse.2 hL0 hL1 hfl
         have ktr := tre_len hsq
         have hl1 := flQ_len _ _ _ _ _ _ hfl
         refine ob_i (a := .bool false) rfl ?_
         refine gop_rf ?_
         refine C.spec_l05Tree op25 ou23.sl (by exact hsq) (fun  u39 H37 ou39 nn40  le38 => ?_)
         replace op1 := op1.le le38
         replace ou23 := ou23.le le38
         replace op25 := op25.le le38
         replace hvt := hvt.le le38
         replace lE := lE.trans le38
         refine gop_rf ?_
         refine gop_rf ?_
         refine C.spec_l00Same ou39.sl hvt (by omega) (fun   H41    le42 => ?_)
         replace op1 := op1.le le42
         replace ou23 := ou23.le le42
         replace op25 := op25.le le42
         replace hvt := hvt.le le42
         replace lE := lE.trans le42
         refine gop_rf ?_
         refine ob_nd (fun hc43 => ?_) (fun hc43 => ?_)
         ·skip
          refine ob_i (vPick_f _ _) ?_
          refine cnd_f1 ?_
          refine ob_i (op25.ldn rfl) ?_
          refine op1.stn (ws := [(.int .i64 (s15)), (.int .i64 (s15)), u23]) rfl rfl (oc1 rfl (oc1 rfl (oc1 ou23.one oc0))) (fun H44 op1 off45 => ?_)
          replace ou23 := ou23.off off45 ap1Xu23.symm
          replace hvt := hvt0.le (off45.le lE np1)
          replace lE := off45.le lE np1
          replace op1 : Cel H44 p1 [(.int .i64 (s15)), (.int .i64 (s15)), u23] := op1
          refine ob_i (op1.ldn rfl) ?_
          skip
          have htf := fill_tf ⟨by omega, by omega, by omega⟩ hse.1 hse.2 hL0 hfl hsq.1.2.2 (by assumption)
          have hcl := htf.2
          have hok : tfP t := by exact htf.1
          exact keq (K := K) (by rw [show ((selI (tfP t) (szz (lvT t (topT t)))) : Int) = (s15) from by first | exact selI_f hok | (rw [selI_t hok]; first | exact hse.1.symm | exact hse.1)]; rw [decide_eq_true (show (tfP t) from by exact hok)]) (hk  u23 _ (Own.cast (show M32 = selL (tfP t) (clT t (topT t)) by (rw [selL_t hok]; first | exact hcl | exact hcl.symm)) ou23) nu23  lE)
         ·skip
          refine ob_i (vPick_f _ _) ?_
          refine cnd_t1 ?_
          refine ob_i (a := (.agg #[(.int .i64 (0)), (.int .i64 (0)), (.slice none 0 0)])) (by rfl) ?_
          refine op1.stn (ws := [(.int .i64 (0)), (.int .i64 (0)), (.slice none 0 0)]) rfl rfl (oc1 rfl (oc1 rfl (oc1 rfl oc0))) (fun H46 op1 off47 => ?_)
          replace hvt := hvt0.le (off47.le lE np1)
          replace lE := off47.le lE np1
          replace op1 : Cel H46 p1 [(.int .i64 (0)), (.int .i64 (0)), (.slice none 0 0)] := op1
          refine ob_i (op1.ldn rfl) ?_
          skip
          have hok : ¬ (tfP t) := by intro h; have h0 := h.1; first | (exfalso; omega) | exact absurd h.2.2.1 (szR_out hsz (by omega)) | exact absurd h (fill_none h0.2.2 hse.1 hL0 hfl) | exact absurd h (fill_no h0.2.2 hse.1 hL0 hfl (by assumption))
          exact keq (K := K) (by rw [show ((selI (tfP t) (szz (lvT t (topT t)))) : Int) = (0) from by first | exact selI_f hok | (rw [selI_t hok]; first | exact hse.1.symm | exact hse.1)]; rw [decide_eq_false (show ¬ (tfP t) from by exact hok)]) (hk  (.slice none 0 0) _ (Own.cast (show [] = selL (tfP t) (clT t (topT t)) by exact (selL_f hok).symm) (Own.nil_of none)) (fun b hb => by simp [bk] at hb)  lE)
        ·skip
         replace op1 := op1.off off36 ap1Xu23
         replace hvt := hvt0.le (off36.le lE nu23)
         replace lE := off36.le lE nu23
         refine ob_i (a := .bool true) rfl ?_
         refine gop_st ?_
         refine gop_st ?_
         refine gop_st ?_
         refine gop_st ?_
         refine ob_i (vPick_t _ _) ?_
         refine cnd_t1 ?_
         refine ob_i (a := (.agg #[(.int .i64 (0)), (.int .i64 (0)), (.slice none 0 0)])) (by rfl) ?_
         refine op1.stn (ws := [(.int .i64 (0)), (.int .i64 (0)), (.slice none 0 0)]) rfl rfl (oc1 rfl (oc1 rfl (oc1 rfl oc0))) (fun H48 op1 off49 => ?_)
         replace hvt := hvt0.le (off49.le lE np1)
         replace lE := off49.le lE np1
         replace op1 : Cel H48 p1 [(.int .i64 (0)), (.int .i64 (0)), (.slice none 0 0)] := op1
         refine ob_i (op1.ldn rfl) ?_
         skip
         have hok : ¬ (tfP t) := by intro h; have h0 := h.1; first | (exfalso; omega) | exact absurd h.2.2.1 (szR_out hsz (by omega)) | exact absurd h (fill_none h0.2.2 hse.1 hL0 hfl) | exact absurd h (fill_no h0.2.2 hse.1 hL0 hfl (by assumption))
         exact keq (K := K) (by rw [show ((selI (tfP t) (szz (lvT t (topT t)))) : Int) = (0) from by first | exact selI_f hok | (rw [selI_t hok]; first | exact hse.1.symm | exact hse.1)]; rw [decide_eq_false (show ¬ (tfP t) from by exact hok)]) (hk  (.slice none 0 0) _ (Own.cast (show [] = selL (tfP t) (clT t (topT t)) by exact (selL_f hok).symm) (Own.nil_of none)) (fun b hb => by simp [bk] at hb)  lE)
      ·skip
       refine gop_e (decide_eq_false hc17) ?_
       refine gop_sf ?_
       refine gop_e (decide_eq_false hc17) ?_
       refine gop_sf ?_
       refine ob_i (vPick_ef (decide_eq_false hc17) _ _) ?_
       refine cnd_f1 ?_
       refine C.spec_l04New (by first | omega | assumption) (by first | omega | assumption) (by first | omega | assumption) (by first | omega | assumption) (fun  u52 H50 ou52 nn53  le51 => ?_)
       have ap1Xu52 : Apart p1 u52 := op1.apart nn53
       have nu52 : Nw H u52 := nn53.le lE
       replace op1 := op1.le le51
       replace hvt := hvt.le le51
       replace lE := lE.trans le51
       refine nw_i (fun p54 H55 op54 nn56 le57 => ?_)
       have ap1Xp54 : Apart p1 p54 := op1.apart nn56
       have au52Xp54 : Apart u52 p54 := ou52.apart nn56
       have np54 : Nw H p54 := nn56.le lE
       replace op1 := op1.le le57
       replace ou52 := ou52.le le57
       replace hvt := hvt.le le57
       replace lE := lE.trans le57
       replace op54 : Cel H55 p54 [(.int .i64 (0)), (.int .i64 (0)), (.slice none 0 0)] := op54
       refine op54.stn (ws := [(.int .i64 (s15)), (.int .i64 (s15)), u52]) rfl rfl (oc1 rfl (oc1 rfl (oc1 ou52.one oc0))) (fun H58 op54 off59 => ?_)
       replace op1 := op1.off off59 ap1Xp54
       replace ou52 := ou52.off off59 au52Xp54
       replace hvt := hvt0.le (off59.le lE np54)
       replace lE := off59.le lE np54
       replace op54 : Cel H58 p54 [(.int .i64 (s15)), (.int .i64 (s15)), u52] := op54
       have hse := szR_in hsz (by omega)
       have hs4 := sz_of hse.2
       have hL0 : ((List.replicate ((s15 : Int).toNat * (s15 : Int).toNat) 0 : List Int).length : Int) = s15 * s15 := by rw [List.length_replicate, Int.natCast_mul, Int.toNat_of_nonneg (by omega)]
       have hL1 : ∀ x ∈ (List.replicate ((s15 : Int).toNat * (s15 : Int).toNat) 0 : List Int), (0 : Int) ≤ x ∧ x ≤ 1 := fun x hx => by rw [List.eq_of_mem_replicate hx]; omega
       refine C.fill_all (lvT t (topT t)) (n := topT t) hvt0 lE op54 ou52 au52Xp54.symm nu52 hrg (by omega) (by omega) hL0 (by omega) (by omega) (by unfold topT; omega) (by unfold topT; omega) (by omega) (by omega) (by omega) (by omega) hse.1 hse.2.2 (fun M61 H60 hfl ou52 off62 => ?_) (fun M64 H63 hfl ou52 hfn off65 => ?_)
       ·skip
        replace op1 := op1.off off62 ap1Xu52
        replace op54 := op54.off off62 au52Xp54.symm
        replace hvt := hvt0.le (off62.le lE nu52)
        replace lE := off62.le lE nu52
        have hsq := fill_sq hrg (by omega) hse.1 hse.2 hL0 hL1 hfl
        have ktr := tre_len hsq
        have hl1 := flQ_len _ _ _ _ _ _ hfl
        refine ob_i (a := .bool false) rfl ?_
        refine gop_rf ?_
        refine C.spec_l05Tree op54 ou52.sl (by exact hsq) (fun  u68 H66 ou68 nn69  le67 => ?_)
        replace op1 := op1.le le67
        replace ou52 := ou52.le le67
        replace op54 := op54.le le67
        replace hvt := hvt.le le67
        replace lE := lE.trans le67
        refine gop_rf ?_
        refine gop_rf ?_
        refine C.spec_l00Same ou68.sl hvt (by omega) (fun   H70    le71 => ?_)
        replace op1 := op1.le le71
        replace ou52 := ou52.le le71
        replace op54 := op54.le le71
        replace hvt := hvt.le le71
        replace lE := lE.trans le71
        refine gop_rf ?_
        refine ob_nd (fun hc72 => ?_) (fun hc72 => ?_)
        ·skip
         refine ob_i (vPick_f _ _) ?_
         refine cnd_f1 ?_
         refine ob_i (op54.ldn rfl) ?_
         refine op1.stn (ws := [(.int .i64 (s15)), (.int .i64 (s15)), u52]) rfl rfl (oc1 rfl (oc1 rfl (oc1 ou52.one oc0))) (fun H73 op1 off74 => ?_)
         replace ou52 := ou52.off off74 ap1Xu52.symm
         replace hvt := hvt0.le (off74.le lE np1)
         replace lE := off74.le lE np1
         replace op1 : Cel H73 p1 [(.int .i64 (s15)), (.int .i64 (s15)), u52] := op1
         refine ob_i (op1.ldn rfl) ?_
         skip
         have htf := fill_tf ⟨by omega, by omega, by omega⟩ hse.1 hse.2 hL0 hfl hsq.1.2.2 (by assumption)
         have hcl := htf.2
         have hok : tfP t := by exact htf.1
         exact keq (K := K) (by rw [show ((selI (tfP t) (szz (lvT t (topT t)))) : Int) = (s15) from by first | exact selI_f hok | (rw [selI_t hok]; first | exact hse.1.symm | exact hse.1)]; rw [decide_eq_true (show (tfP t) from by exact hok)]) (hk  u52 _ (Own.cast (show M61 = selL (tfP t) (clT t (topT t)) by (rw [selL_t hok]; first | exact hcl | exact hcl.symm)) ou52) nu52  lE)
        ·skip
         refine ob_i (vPick_f _ _) ?_
         refine cnd_t1 ?_
         refine ob_i (a := (.agg #[(.int .i64 (0)), (.int .i64 (0)), (.slice none 0 0)])) (by rfl) ?_
         refine op1.stn (ws := [(.int .i64 (0)), (.int .i64 (0)), (.slice none 0 0)]) rfl rfl (oc1 rfl (oc1 rfl (oc1 rfl oc0))) (fun H75 op1 off76 => ?_)
         replace hvt := hvt0.le (off76.le lE np1)
         replace lE := off76.le lE np1
         replace op1 : Cel H75 p1 [(.int .i64 (0)), (.int .i64 (0)), (.slice none 0 0)] := op1
         refine ob_i (op1.ldn rfl) ?_
         skip
         have hok : ¬ (tfP t) := by intro h; have h0 := h.1; first | (exfalso; omega) | exact absurd h.2.2.1 (szR_out hsz (by omega)) | exact absurd h (fill_none h0.2.2 hse.1 hL0 hfl) | exact absurd h (fill_no h0.2.2 hse.1 hL0 hfl (by assumption))
         exact keq (K := K) (by rw [show ((selI (tfP t) (szz (lvT t (topT t)))) : Int) = (0) from by first | exact selI_f hok | (rw [selI_t hok]; first | exact hse.1.symm | exact hse.1)]; rw [decide_eq_false (show ¬ (tfP t) from by exact hok)]) (hk  (.slice none 0 0) _ (Own.cast (show [] = selL (tfP t) (clT t (topT t)) by exact (selL_f hok).symm) (Own.nil_of none)) (fun b hb => by simp [bk] at hb)  lE)
       ·skip
        replace op1 := op1.off off65 ap1Xu52
        replace hvt := hvt0.le (off65.le lE nu52)
        replace lE := off65.le lE nu52
        refine ob_i (a := .bool true) rfl ?_
        refine gop_st ?_
        refine gop_st ?_
        refine gop_st ?_
        refine gop_st ?_
        refine ob_i (vPick_t _ _) ?_
        refine cnd_t1 ?_
        refine ob_i (a := (.agg #[(.int .i64 (0)), (.int .i64 (0)), (.slice none 0 0)])) (by rfl) ?_
        refine op1.stn (ws := [(.int .i64 (0)), (.int .i64 (0)), (.slice none 0 0)]) rfl rfl (oc1 rfl (oc1 rfl (oc1 rfl oc0))) (fun H77 op1 off78 => ?_)
        replace hvt := hvt0.le (off78.le lE np1)
        replace lE := off78.le lE np1
        replace op1 : Cel H77 p1 [(.int .i64 (0)), (.int .i64 (0)), (.slice none 0 0)] := op1
        refine ob_i (op1.ldn rfl) ?_
        skip
        have hok : ¬ (tfP t) := by intro h; have h0 := h.1; first | (exfalso; omega) | exact absurd h.2.2.1 (szR_out hsz (by omega)) | exact absurd h (fill_none h0.2.2 hse.1 hL0 hfl) | exact absurd h (fill_no h0.2.2 hse.1 hL0 hfl (by assumption))
        exact keq (K := K) (by rw [show ((selI (tfP t) (szz (lvT t (topT t)))) : Int) = (0) from by first | exact selI_f hok | (rw [selI_t hok]; first | exact hse.1.symm | exact hse.1)]; rw [decide_eq_false (show ¬ (tfP t) from by exact hok)]) (hk  (.slice none 0 0) _ (Own.cast (show [] = selL (tfP t) (clT t (topT t)) by exact (selL_f hok).symm) (Own.nil_of none)) (fun b hb => by simp [bk] at hb)  lE)
     ·skip
      refine gop_e (decide_eq_false hc16) ?_
      refine gop_sf ?_
      refine gop_e (decide_eq_false hc16) ?_
      refine gop_sf ?_
      refine ob_i (vPick_ef (decide_eq_false hc16) _ _) ?_
      refine gop_sf ?_
      refine gop_sf ?_
      refine ob_i (vPick_f _ _) ?_
      refine cnd_f1 ?_
      refine C.spec_l04New (by first | omega | assumption) (by first | omega | assumption) (by first | omega | assumption) (by first | omega | assumption) (fun  u81 H79 ou81 nn82  le80 => ?_)
      have ap1Xu81 : Apart p1 u81 := op1.apart nn82
      have nu81 : Nw H u81 := nn82.le lE
      replace op1 := op1.le le80
      replace hvt := hvt.le le80
      replace lE := lE.trans le80
      refine nw_i (fun p83 H84 op83 nn85 le86 => ?_)
      have ap1Xp83 : Apart p1 p83 := op1.apart nn85
      have au81Xp83 : Apart u81 p83 := ou81.apart nn85
      have np83 : Nw H p83 := nn85.le lE
      replace op1 := op1.le le86
      replace ou81 := ou81.le le86
      replace hvt := hvt.le le86
      replace lE := lE.trans le86
      replace op83 : Cel H84 p83 [(.int .i64 (0)), (.int .i64 (0)), (.slice none 0 0)] := op83
      refine op83.stn (ws := [(.int .i64 (s15)), (.int .i64 (s15)), u81]) rfl rfl (oc1 rfl (oc1 rfl (oc1 ou81.one oc0))) (fun H87 op83 off88 => ?_)
      replace op1 := op1.off off88 ap1Xp83
      replace ou81 := ou81.off off88 au81Xp83
      replace hvt := hvt0.le (off88.le lE np83)
      replace lE := off88.le lE np83
      replace op83 : Cel H87 p83 [(.int .i64 (s15)), (.int .i64 (s15)), u81] := op83
      have hse := szR_in hsz (by omega)
      have hs4 := sz_of hse.2
      have hL0 : ((List.replicate ((s15 : Int).toNat * (s15 : Int).toNat) 0 : List Int).length : Int) = s15 * s15 := by rw [List.length_replicate, Int.natCast_mul, Int.toNat_of_nonneg (by omega)]
      have hL1 : ∀ x ∈ (List.replicate ((s15 : Int).toNat * (s15 : Int).toNat) 0 : List Int), (0 : Int) ≤ x ∧ x ≤ 1 := fun x hx => by rw [List.eq_of_mem_replicate hx]; omega
      refine C.fill_all (lvT t (topT t)) (n := topT t) hvt0 lE op83 ou81 au81Xp83.symm nu81 hrg (by omega) (by omega) hL0 (by omega) (by omega) (by unfold topT; omega) (by unfold topT; omega) (by omega) (by omega) (by omega) (by omega) hse.1 hse.2.2 (fun M90 H89 hfl ou81 off91 => ?_) (fun M93 H92 hfl ou81 hfn off94 => ?_)
      ·skip
       replace op1 := op1.off off91 ap1Xu81
       replace op83 := op83.off off91 au81Xp83.symm
       replace hvt := hvt0.le (off91.le lE nu81)
       replace lE := off91.le lE nu81
       have hsq := fill_sq hrg (by omega) hse.1 hse.2 hL0 hL1 hfl
       have ktr := tre_len hsq
       have hl1 := flQ_len _ _ _ _ _ _ hfl
       refine ob_i (a := .bool false) rfl ?_
       refine gop_rf ?_
       refine C.spec_l05Tree op83 ou81.sl (by exact hsq) (fun  u97 H95 ou97 nn98  le96 => ?_)
       replace op1 := op1.le le96
       replace ou81 := ou81.le le96
       replace op83 := op83.le le96
       replace hvt := hvt.le le96
       replace lE := lE.trans le96
       refine gop_rf ?_
       refine gop_rf ?_
       refine C.spec_l00Same ou97.sl hvt (by omega) (fun   H99    le100 => ?_)
       replace op1 := op1.le le100
       replace ou81 := ou81.le le100
       replace op83 := op83.le le100
       replace hvt := hvt.le le100
       replace lE := lE.trans le100
       refine gop_rf ?_
       refine ob_nd (fun hc101 => ?_) (fun hc101 => ?_)
       ·skip
        refine ob_i (vPick_f _ _) ?_
        refine cnd_f1 ?_
        refine ob_i (op83.ldn rfl) ?_
        refine op1.stn (ws := [(.int .i64 (s15)), (.int .i64 (s15)), u81]) rfl rfl (oc1 rfl (oc1 rfl (oc1 ou81.one oc0))) (fun H102 op1 off103 => ?_)
        replace ou81 := ou81.off off103 ap1Xu81.symm
        replace hvt := hvt0.le (off103.le lE np1)
        replace lE := off103.le lE np1
        replace op1 : Cel H102 p1 [(.int .i64 (s15)), (.int .i64 (s15)), u81] := op1
        refine ob_i (op1.ldn rfl) ?_
        skip
        have htf := fill_tf ⟨by omega, by omega, by omega⟩ hse.1 hse.2 hL0 hfl hsq.1.2.2 (by assumption)
        have hcl := htf.2
        have hok : tfP t := by exact htf.1
        exact keq (K := K) (by rw [show ((selI (tfP t) (szz (lvT t (topT t)))) : Int) = (s15) from by first | exact selI_f hok | (rw [selI_t hok]; first | exact hse.1.symm | exact hse.1)]; rw [decide_eq_true (show (tfP t) from by exact hok)]) (hk  u81 _ (Own.cast (show M90 = selL (tfP t) (clT t (topT t)) by (rw [selL_t hok]; first | exact hcl | exact hcl.symm)) ou81) nu81  lE)
       ·skip
        refine ob_i (vPick_f _ _) ?_
        refine cnd_t1 ?_
        refine ob_i (a := (.agg #[(.int .i64 (0)), (.int .i64 (0)), (.slice none 0 0)])) (by rfl) ?_
        refine op1.stn (ws := [(.int .i64 (0)), (.int .i64 (0)), (.slice none 0 0)]) rfl rfl (oc1 rfl (oc1 rfl (oc1 rfl oc0))) (fun H104 op1 off105 => ?_)
        replace hvt := hvt0.le (off105.le lE np1)
        replace lE := off105.le lE np1
        replace op1 : Cel H104 p1 [(.int .i64 (0)), (.int .i64 (0)), (.slice none 0 0)] := op1
        refine ob_i (op1.ldn rfl) ?_
        skip
        have hok : ¬ (tfP t) := by intro h; have h0 := h.1; first | (exfalso; omega) | exact absurd h.2.2.1 (szR_out hsz (by omega)) | exact absurd h (fill_none h0.2.2 hse.1 hL0 hfl) | exact absurd h (fill_no h0.2.2 hse.1 hL0 hfl (by assumption))
        exact keq (K := K) (by rw [show ((selI (tfP t) (szz (lvT t (topT t)))) : Int) = (0) from by first | exact selI_f hok | (rw [selI_t hok]; first | exact hse.1.symm | exact hse.1)]; rw [decide_eq_false (show ¬ (tfP t) from by exact hok)]) (hk  (.slice none 0 0) _ (Own.cast (show [] = selL (tfP t) (clT t (topT t)) by exact (selL_f hok).symm) (Own.nil_of none)) (fun b hb => by simp [bk] at hb)  lE)
      ·skip
       replace op1 := op1.off off94 ap1Xu81
       replace hvt := hvt0.le (off94.le lE nu81)
       replace lE := off94.le lE nu81
       refine ob_i (a := .bool true) rfl ?_
       refine gop_st ?_
       refine gop_st ?_
       refine gop_st ?_
       refine gop_st ?_
       refine ob_i (vPick_t _ _) ?_
       refine cnd_t1 ?_
       refine ob_i (a := (.agg #[(.int .i64 (0)), (.int .i64 (0)), (.slice none 0 0)])) (by rfl) ?_
       refine op1.stn (ws := [(.int .i64 (0)), (.int .i64 (0)), (.slice none 0 0)]) rfl rfl (oc1 rfl (oc1 rfl (oc1 rfl oc0))) (fun H106 op1 off107 => ?_)
       replace hvt := hvt0.le (off107.le lE np1)
       replace lE := off107.le lE np1
       replace op1 : Cel H106 p1 [(.int .i64 (0)), (.int .i64 (0)), (.slice none 0 0)] := op1
       refine ob_i (op1.ldn rfl) ?_
       skip
       have hok : ¬ (tfP t) := by intro h; have h0 := h.1; first | (exfalso; omega) | exact absurd h.2.2.1 (szR_out hsz (by omega)) | exact absurd h (fill_none h0.2.2 hse.1 hL0 hfl) | exact absurd h (fill_no h0.2.2 hse.1 hL0 hfl (by assumption))
       exact keq (K := K) (by rw [show ((selI (tfP t) (szz (lvT t (topT t)))) : Int) = (0) from by first | exact selI_f hok | (rw [selI_t hok]; first | exact hse.1.symm | exact hse.1)]; rw [decide_eq_false (show ¬ (tfP t) from by exact hok)]) (hk  (.slice none 0 0) _ (Own.cast (show [] = selL (tfP t) (clT t (topT t)) by exact (selL_f hok).symm) (Own.nil_of none)) (fun b hb => by simp [bk] at hb)  lE)
    refine ob_i (hvt.len) ?_
    refine ⟨fun n' σ' H' => ∃ i : Nat, n' = t.length - i ∧ i ≤ t.length ∧ σ' 0 = vt ∧ σ' 2 = p1 ∧ σ' 4 = (.int .i64 (((t).length : Int))) ∧ σ' 24 = (.int .i64 (((t).length : Int))) ∧ σ' 25 = (.int .i64 ((i : Int))) ∧ Cel H' p1 [(.int .i64 (0)), (.int .i64 (0)), (.slice none 0 0)] ∧ Le H H' ∧ (∀ j : Nat, j < i → 0 ≤ at_ 0 t (j : Int) ∧ at_ 0 t (j : Int) ≤ (j : Int) / 4 + 1),
     ⟨_, 0, rfl, by omega, rfl, rfl, rfl, rfl, (congrArg (Value.int .i64) (by first | omega | rfl | (simp; done))), op1, lE, (fun j hj => by omega)⟩, ?_⟩
    rintro n108 σ108 H108 ⟨i, rfl, hiN, g0L108, g2L108, g4L108, g24L108, g25L108, op1, lE, hm0⟩
    have hvt := hvt0.le lE
    try simp only [g0L108, g2L108, g24L108, g25L108]
    refine ob_i (vInt_lss _ _ _) ?_
    refine cnd_d (fun hg109 => ?_) (fun hg109 => ?_)
    ·skip
     have ti := hg109
     refine ob_i (hvt.ix (by omega) (by omega)) ?_
     refine ob_i (hvt.ld 0 (by omega) (by omega)) ?_
     refine ob_i (vInt_quoN (by omega) (by omega) (by omega)) ?_
     refine ob_i (vInt_add (by omega) (by omega)) ?_
     refine C.spec_l00In  ?_
     refine ob_nd (fun hc110 => ?_) (fun hc110 => ?_)
     ·skip
      refine cnd_f1 ?_
      refine ob_i (vInt_add (by omega) (by omega)) ?_
      exact nxt (t.length - (i + 1)) (by omega) ⟨i + 1, rfl, by omega, g0L108, g2L108, g4L108, g24L108, (congrArg (Value.int .i64) (by first | omega | rfl | (simp; done))), op1, lE, (rng_snoc hm0 hc110)⟩
     ·skip
      refine cnd_t1 ?_
      refine ob_i (a := (.agg #[(.int .i64 (0)), (.int .i64 (0)), (.slice none 0 0)])) (by rfl) ?_
      refine op1.stn (ws := [(.int .i64 (0)), (.int .i64 (0)), (.slice none 0 0)]) rfl rfl (oc1 rfl (oc1 rfl (oc1 rfl oc0))) (fun H111 op1 off112 => ?_)
      replace hvt := hvt0.le (off112.le lE np1)
      replace lE := off112.le lE np1
      replace op1 : Cel H111 p1 [(.int .i64 (0)), (.int .i64 (0)), (.slice none 0 0)] := op1
      show ob (vLoadN 3 (σ108 2) H111) (fun w0 => K (.tuple #[w0, (.bool false)]) H111)
      rw [g2L108]
      refine ob_i (op1.ldn rfl) ?_
      skip
      have hok : ¬ (tfP t) := by intro h; exact absurd (h.2.1.rng h.1.2.2 i (by omega)) hc110
      exact keq (K := K) (by rw [show ((selI (tfP t) (szz (lvT t (topT t)))) : Int) = (0) from by first | exact selI_f hok | (rw [selI_t hok]; first | exact hse.1.symm | exact hse.1)]; rw [decide_eq_false (show ¬ (tfP t) from by exact hok)]) (hk  (.slice none 0 0) _ (Own.cast (show [] = selL (tfP t) (clT t (topT t)) by exact (selL_f hok).symm) (Own.nil_of none)) (fun b hb => by simp [bk] at hb)  lE)
    ·skip
     have ti := hg109
     exact hJ14 _ _ ⟨g0L108, g2L108, g4L108, op1, lE, (fun j hj => hm0 j (by omega))⟩
end Go.Proofs.Ythmdmbbdjbhcoaa
/- Ranges over functions: a rule by an invariant; slices.Chunk. -/
namespace Go.Proofs.Ythmdmbbdjbhcoaa
open HL
set_option maxRecDepth 100000
namespace HL
/-- A range over an iterator that gives N times something: what holds ahead of each round. -/
theorem rgE_i {fv : Value} {ps : List Nat} {body : (Exit → S → Hp → Prop) → S → Hp → Prop} {Q : Exit → S → Hp → Prop} {σ : S} {H : Hp} (N : Nat) (arg : Nat → List Value) (I : Nat → Hp → Prop) (hfv : match fv with | .func (.func _) _ _ => True | _ => False) (hps : ∀ t, (arg t).length = ps.length) (h0 : I 0 H)
    (hb : ∀ t A σ' (Q' : Exit → S → Hp → Prop), t < N → σ' = ups σ ps (arg t) → (∀ σ'' B, I (t + 1) B → Q' .normal σ'' B) → (∀ σ'' B, Q .ret σ B → Q' .ret σ'' B) → (∀ id σ'' B, Q (.exit id) σ B → Q' (.exit id) σ'' B) → I t A → body Q' σ' A)
    (hend : ∀ A, I N A → Q .normal σ A)
    (hcall : ∀ (yv : Value) (J : Nat → Hp → Prop) (St : Hp → Prop) (H1 : Hp) (K : Value → Hp → Prop), (∀ t A, J t A → ∃ A' b o, A = A'.put b o ∧ A' b = none ∧ I t A') → J 0 H1 →
      (∀ t A (Z : Value → Hp → Prop), t < N → J t A → (∀ B, J (t + 1) B → Z (.bool true) B) → (∀ B, St B → Z (.bool false) B) → callV prg yv (arg t) A Z) → (∀ A, J N A → K (.tuple #[]) A) → (∀ A, St A → K (.tuple #[]) A) → callV prg fv [yv] H1 K) :
    rgE prg fv ps body Q σ H := by
  refine ⟨hfv, fun l X hl hy => ?_⟩
  refine hcall _ (fun t A => ∃ A', A = A'.put l (X none) ∧ A' l = none ∧ I t A') (fun A => ∃ A' j, A = A'.put l (X j) ∧ A' l = none ∧ jmpQ Q σ A' j) _ _ ?_ ⟨H, rfl, hl, h0⟩ ?_ ?_ ?_
  · rintro t A ⟨A', rfl, hn, hI⟩
    exact ⟨A', l, X none, rfl, hn, hI⟩
  · rintro t A Z ht ⟨A', rfl, hn, hI⟩ hT hF
    refine hy (arg t) A' Z (hps t) hn (hb t A' _ _ ht rfl (fun σ'' B hB hBl => ?_) (fun σ'' B hB hBl => ?_) (fun id σ'' B hB hBl => ?_) hI)
    · exact hT _ ⟨B, rfl, hBl, hB⟩
    · exact hF _ ⟨B, some .ret, rfl, hBl, hB⟩
    · exact hF _ ⟨B, some (.exit id), rfl, hBl, hB⟩
  · rintro A ⟨A', rfl, hn, hI⟩
    exact ⟨A', none, rfl, hn, hend A' hI⟩
  · rintro A ⟨A', j, rfl, hn, hj⟩
    exact ⟨A', j, rfl, hn, hj⟩
/-- A piece of a slice, with no room behind it. -/
def chV (v : Value) (lo c : Nat) : Value := (vSl3 1 v (some (.int .i64 (lo : Int))) (some (.int .i64 ((lo : Int) + (c : Int)))) (some (.int .i64 ((lo : Int) + (c : Int))))).getD undef
theorem chV_sl {α : Type} {enc : α → Value} {H : Hp} {v : Value} {l : List α} (h : Sl enc H v l) {lo c : Nat} (h1 : lo + c ≤ l.length) :
    vSl3 1 v (some (.int .i64 (lo : Int))) (some (.int .i64 ((lo : Int) + (c : Int)))) (some (.int .i64 ((lo : Int) + (c : Int)))) = some (chV v lo c) ∧ Sl enc H (chV v lo c) ((l.drop lo).take c) := by
  obtain ⟨a, k, rfl, hc, hr⟩ := h
  have e0 : bnd (some (.int .i64 ((lo : Int) + (c : Int)))) k k = some (lo + c) := by simp only [bnd]; rw [if_pos ⟨by omega, by omega⟩]; congr 1
  have e1 : bnd (some (.int .i64 ((lo : Int) + (c : Int)))) (lo + c) (lo + c) = some (lo + c) := by simp only [bnd]; rw [if_pos ⟨by omega, by omega⟩]; congr 1
  have e2 : bnd (some (.int .i64 (lo : Int))) (lo + c) 0 = some lo := by simp only [bnd]; rw [if_pos ⟨by omega, by omega⟩]; simp
  have e : vSl3 1 (.slice a l.length k) (some (.int .i64 (lo : Int))) (some (.int .i64 ((lo : Int) + (c : Int)))) (some (.int .i64 ((lo : Int) + (c : Int)))) = some (.slice (if lo + c = lo then a else a.map (·.add (lo * 1))) (lo + c - lo) (lo + c - lo)) := by
    simp only [vSl3, e0, e1, e2]
  refine ⟨by unfold chV; rw [e]; rfl, ?_⟩
  unfold chV
  rw [e]
  show Sl enc H (.slice _ _ _) _
  have hl : ((l.drop lo).take c).length = c := by simp; omega
  refine ⟨_, _, by rw [hl]; congr 1; omega, by rw [hl]; omega, fun i hi' => ?_⟩
  rw [hl] at hi'
  obtain ⟨ad, rfl, hh⟩ := hr (lo + i) (by omega)
  rw [if_neg (by omega)]
  refine ⟨ad.add (lo * 1), rfl, ?_⟩
  have e4 : (ad.add (lo * 1)).add i = ad.add (lo + i) := by
    rw [Nat.mul_one]
    unfold Addr.add
    by_cases hx : lo = 0
    · rw [if_pos hx, hx, Nat.zero_add]
    · by_cases hy : i = 0
      · subst hy; simp
      · rw [if_neg hx, if_neg hy, if_neg (by omega)]; simp [Nat.add_assoc]
  rw [e4, hh]
  simp
end HL
/-- A row of a list. -/
def rowL (c : Nat) (l : List Int) (i : Nat) : List Int := (l.drop (i * c)).take c
theorem rowL_len {c r : Nat} {l : List Int} (hl : l.length = r * c) {i : Nat} (hi : i < r) : (rowL c l i).length = c := by
  unfold rowL
  have := Nat.mul_le_mul_right c (show i + 1 ≤ r by omega)
  rw [Nat.add_mul, Nat.one_mul] at this
  simp; omega
theorem C.slices_Chunk {vc : Value} {l : List Int} {n : Int} {H : Hp} {K : Value → Hp → Prop} (hv : Sl eI H vc l) (hn : 1 ≤ n)
    (hk : ∀ ps pn H', Cel H' ps [vc] → Cel H' pn [.int .i64 n] → Nw H ps → Nw H pn → Apart ps pn → Le H H' → K (.func (.func I.slices_Chunk_int64Zint64Z1) #[] #[ps, pn]) H') :
    HT prg I.slices_Chunk_int64Zint64 [vc, .int .i64 n].toArray H K := by
 refine R.slices_Chunk_int64Zint64 ?_
 unfold F.slices_Chunk_int64Zint64
 rw [hv.cells]
 refine nw_i (fun ps H2 ops nps le2 => ?_)
 refine nw_i (fun pn H4 opn npn le4 => ?_)
 refine ob_i (opn.ld0 rfl) ?_
 refine ob_i (vInt_lss _ _ _) ?_
 rw [decide_eq_false (show ¬ n < 1 by omega)]
 refine cnd_f1 ?_
 exact hk ps pn H4 (ops.le le4) opn nps (npn.le le2) (ops.apart npn) (le2.trans le4)
theorem C.slices_ChunkZ1 {yv ps pn vc : Value} {l : List Int} {c r : Nat} {H0 H : Hp} {K : Value → Hp → Prop} {J : Nat → Hp → Prop} {St : Hp → Prop} (hv : Sl eI H0 vc l) (hl : l.length = r * c) (c1 : 1 ≤ c) (c2 : c ≤ 1000000) (l2 : l.length ≤ 1000000)
    (hb : ∀ t A, J t A → Cel A ps [vc] ∧ Cel A pn [.int .i64 (c : Int)]) (h0 : J 0 H)
    (hst : ∀ t A (Z : Value → Hp → Prop), t < r → J t A → (∀ B, J (t + 1) B → Z (.bool true) B) → (∀ B, St B → Z (.bool false) B) → callV prg yv [chV vc (t * c) c] A Z)
    (hk : ∀ A, J r A → K (.tuple #[]) A) (hs : ∀ A, St A → K (.tuple #[]) A) :
    HT prg I.slices_Chunk_int64Zint64Z1 [yv, ps, pn].toArray H K := by
 refine R.slices_Chunk_int64Zint64Z1 ?_
 unfold F.slices_Chunk_int64Zint64Z1
 refine ⟨fun n σ H' => ∃ t : Nat, n = r - t ∧ t ≤ r ∧ σ 0 = yv ∧ σ 1 = ps ∧ σ 2 = pn ∧ σ 4 = .int .i64 ((t * c : Nat) : Int) ∧ J t H', ⟨_, 0, rfl, by omega, rfl, rfl, rfl, congrArg (Value.int .i64) (by simp), h0⟩, ?_⟩
 rintro n σ H1 ⟨t, rfl, ht, g0, g1, g2, g4, hJ⟩
 simp only [g0, g1, g2, g4]
 obtain ⟨ops, opn⟩ := hb t H1 hJ
 refine ob_i (ops.ld0 rfl) ?_
 refine ob_i hv.len ?_
 refine ob_i (vInt_lss _ _ _) ?_
 refine cnd_d (fun hlt => ?_) (fun hge => ?_)
 ·have htr : t < r := Nat.lt_of_not_le fun hh => by
   have := Nat.mul_le_mul_right c hh
   omega
  have hm := Nat.mul_le_mul_right c (show t + 1 ≤ r by omega)
  rw [Nat.add_mul, Nat.one_mul] at hm
  refine ob_i (opn.ld0 rfl) ?_
  refine ob_i (ops.ld0 rfl) ?_
  obtain ⟨x, _, hx2, _, _, hx5, _⟩ := hv.cut (lo := ((t * c : Nat) : Int)) (hi := (l.length : Int)) (by omega) (by omega) (by omega)
  refine ob_i (hx2 rfl) ?_
  refine ob_i hx5.len ?_
  have hmin : vMx false (.int .i64 (c : Int)) [.int .i64 (((l.drop ((t * c : Nat) : Int).toNat).take ((l.length : Int).toNat - ((t * c : Nat) : Int).toNat)).length : Int)] = some (.int .i64 (c : Int)) := by
   simp only [vMx]
   rw [if_neg]
   rw [List.length_take, List.length_drop, Int.toNat_natCast, Int.toNat_natCast]
   omega
  refine ob_i hmin ?_
  refine ob_i (ops.ld0 rfl) ?_
  refine ob_i (vInt_add (by omega) (by omega)) ?_
  refine ob_i (vInt_add (by omega) (by omega)) ?_
  refine ob_i (chV_sl hv (lo := t * c) (c := c) (by omega)).1 ?_
  refine hst t H1 _ htr hJ (fun B hB => ?_) (fun B hB => ?_)
  ·refine ob_i (a := .bool false) rfl ?_
   refine cnd_f1 ?_
   obtain ⟨ops, opn⟩ := hb _ B hB
   refine ob_i (opn.ld0 rfl) ?_
   refine ob_i (vInt_add (by omega) (by omega)) ?_
   exact nxt (r - (t + 1)) (by omega) ⟨t + 1, rfl, by omega, g0, g1, g2, congrArg (Value.int .i64) (by rw [Nat.add_mul, Nat.one_mul]; omega), hB⟩
  ·refine ob_i (a := .bool true) rfl ?_
   refine cnd_t1 ?_
   exact hs B hB
 ·obtain rfl : t = r := by
   have := Nat.le_antisymm ht (Nat.le_of_not_lt fun hh => by
    have hm := Nat.mul_le_mul_right c (show t + 1 ≤ r by omega)
    rw [Nat.add_mul, Nat.one_mul] at hm
    omega)
   exact this
  exact hk _ hJ
end Go.Proofs.Ythmdmbbdjbhcoaa
/- Parts in a family, one behind the other. -/
namespace Go.Proofs.Ythmdmbbdjbhcoaa
open HL
set_option maxRecDepth 100000
namespace HL
theorem Fam.two_of {H : Hp} {u x y : Value} {r c r' c' : Int} {l m : List Int} (h : OwnE 3 encFv H u [⟨r, c, x⟩, ⟨r', c', y⟩]) (hx : Own eI H x l) (hy : Own eI H y m) (ap : Apart u x) (aq : Apart u y) (axy : Apart x y) :
    ∃ S : Rg, Fam H u S [⟨r, c, l⟩, ⟨r', c', m⟩] ∧ ∀ b, S b → bk u = some b ∨ bk x = some b ∨ bk y = some b :=
  ⟨fun b => bk u = some b ∨ bk x = some b ∨ bk y = some b, ⟨[⟨r, c, x⟩, ⟨r', c', y⟩], h, ⟨⟨rfl, rfl, hx⟩, ⟨rfl, rfl, hy⟩, trivial⟩, by simp; exact ⟨ap, aq⟩, by simpa using axy, fun b => by simp⟩, fun b hb => hb⟩
theorem Fam.elO {H : Hp} {v : Value} {S : Rg} {fs : List FdL} {f : FdL} (h : Fam H v S fs) {i : Int} (i0 : 0 ≤ i) (i1 : i < fs.length) (e : at_ fd0 fs i = f) :
    ∃ P x, vIx 3 v (.int .i64 i) = some P ∧ CelR H P [.int .i64 f.r, .int .i64 f.c, x] ∧ Own eI H x f.l ∧ (∀ b, bk P = some b → S b) ∧ (∀ b, bk x = some b → S b) := by
  obtain ⟨L, h1, h2, h3, h4, h5⟩ := h
  obtain ⟨n, rfl⟩ := Int.eq_ofNat_of_zero_le i0
  have hl := h2.len
  have hn : n < L.length := by omega
  obtain ⟨g1, g2, g3⟩ := h2.get hn
  obtain ⟨a, c, rfl, ho, hb, hc⟩ := h1.blk encFv_n (by omega) hn
  have hx := at_get fv0 hn
  subst e
  refine ⟨.pointer (some (a.add (n * 3))), (at_ fv0 L (n : Int)).v, ?_, ⟨_, rfl, by rw [add_block]; exact ho, fun j hj => ?_⟩, g3, fun b hb2 => ?_, fun b hb2 => ?_⟩
  · simp only [vIx]
    rw [if_pos (by omega)]; rfl
  · simp only [List.length_cons, List.length_nil] at hj
    rw [add_add, hc j (by omega), ← hx]
    simp only [encFv]
    have hj3 : j = 0 ∨ j = 1 ∨ j = 2 := by omega
    rcases hj3 with rfl | rfl | rfl
    · simp [g1]
    · simp [g2]
    · simp
  · simp only [bk, add_block, Option.some.injEq] at hb2
    subst hb2
    exact (h5 _).mpr (.inl hb)
  · exact (h5 _).mpr (.inr ⟨_, at_mem fv0 L (by omega) (by omega), hb2⟩)
theorem Apt.of_three {α : Type} [Bks α] {z : α} {u x y : Value} {S : Rg} (hS : ∀ b, S b → bk u = some b ∨ bk x = some b ∨ bk y = some b) (hu : Apt z u) (hx : Apt z x) (hy : Apt z y) : Apt z S := fun b h1 h2 => by
  rcases hS b h2 with h | h | h
  · exact hu b h1 h
  · exact hx b h1 h
  · exact hy b h1 h
theorem Nws.of_three {H : Hp} {u x y : Value} {S : Rg} (hS : ∀ b, S b → bk u = some b ∨ bk x = some b ∨ bk y = some b) (hu : Nw H u) (hx : Nw H x) (hy : Nw H y) : Nws H S := fun b h => by
  rcases hS b h with h | h | h
  · exact hu b h
  · exact hx b h
  · exact hy b h
end HL
/-- The parts as fields. -/
def famT (t : List Int) (j : Nat) : List FdL := (ptQ t j).map fun x => ⟨szz x.1, szz x.1, x.2⟩
theorem famT_len (t : List Int) (j : Nat) : (famT t j).length = j + 2 := by simp [famT, ptQ_len]
theorem famT_at {t : List Int} {j : Nat} {n : Int} (h0 : 0 ≤ n) (h : n < (j : Int) + 2) : at_ fd0 (famT t j) n = ⟨szz (lvT t n), szz (lvT t n), clT t n⟩ := by
  have a := lvP_T (t := t) (j := j) h
  have b := clP_T (t := t) (j := j) h
  have hl : n.toNat < (ptQ t j).length := by rw [ptQ_len]; omega
  rw [← a, ← b]
  unfold lvP clP at_ famT
  simp [List.getD_eq_getElem?_getD, hl]
/-- What a new part's cells are. -/
def gT (t : List Int) (j : Nat) : Int → Int → Int := makQ (ptQ t j) t j (szz (lvT t (entT t j 0)))
theorem famT_succ {t : List Int} {j : Nat} {h : Int} (h0 : entT t j 0 < (j : Int) + 2) (hh : h = szz (lvT t (entT t j 0))) : famT t (j + 1) = famT t j ++ [⟨2 * h, 2 * h, mkL (2 * h) (gT t j) ((2 * h).toNat * (2 * h).toNat)⟩] := by
  have zz := szz_succ (lvT t (entT t j 0))
  rw [hh, show 2 * szz (lvT t (entT t j 0)) = szz (lvT t (entT t j 0) + 1) by omega]
  show (ptQ t j ++ [mkP (ptQ t j) t j]).map _ = _
  rw [List.map_append]
  congr 1
  simp only [List.map_cons, List.map_nil, mkP, gT, lvP_T h0]
theorem famT_zero (t : List Int) : famT t 0 = [⟨1, 1, [0]⟩, ⟨1, 1, [1]⟩] := rfl
/-- The entries of a chunk. -/
theorem row_ent {t : List Int} {i q : Nat} (hq : q < 4) : at_ 0 (rowL 4 t i) (q : Int) = entT t i q := by
  unfold rowL entT at_
  simp only [List.getD_eq_getElem?_getD]
  rw [show (4 * (i : Int) + (q : Int)).toNat = i * 4 + q by omega, show ((q : Int)).toNat = q by omega]
  rw [List.getElem?_take_of_lt hq, List.getElem?_drop]
theorem row_ent0 {t : List Int} {i : Nat} : at_ 0 (rowL 4 t i) 0 = entT t i 0 := row_ent (q := 0) (by omega)
def okK (t : List Int) (i q : Nat) : Prop := (0 ≤ entT t i q ∧ entT t i q ≤ (i : Int) + 1) ∧ lvT t (entT t i q) = lvT t (entT t i 0) ∧ lvT t (entT t i q) ≤ 3
theorem okK_snoc {t : List Int} {i q : Nat} (hm : ∀ p : Nat, p < q → okK t i p) (h : okK t i q) : ∀ p : Nat, p < q + 1 → okK t i p := fun p hp => by
  by_cases e : p = q
  · subst e; exact h
  · exact hm p (by omega)
theorem ent_first {t : List Int} {i q : Nat} (hm : ∀ p : Nat, p < q → okK t i p) (h : 0 ≤ entT t i q ∧ entT t i q ≤ (i : Int) + 1) : 0 ≤ entT t i 0 ∧ entT t i 0 ≤ (i : Int) + 1 := by
  by_cases e : q = 0
  · subst e; simpa using h
  · have := (hm 0 (by omega)).1; simpa using this
theorem szz_inj {a b : Nat} (h : szz a = szz b) : a = b := by
  rw [← szz_cast, ← szz_cast] at h
  have h' : 2 ^ a = 2 ^ b := by exact_mod_cast h
  rcases Nat.lt_trichotomy a b with c | c | c
  · have := Nat.pow_lt_pow_right (show 1 < 2 by omega) c; omega
  · exact c
  · have := Nat.pow_lt_pow_right (show 1 < 2 by omega) c; omega
theorem szz_le8 {a : Nat} (h : ¬ 8 < szz a) : a ≤ 3 := by
  by_cases hh : a ≤ 3
  · exact hh
  · exfalso
    have h2 : 2 ^ 4 ≤ 2 ^ a := Nat.pow_le_pow_right (by omega) (by omega)
    have := szz_cast a
    omega
theorem szz_8 {a : Nat} (h : a ≤ 3) : szz a ≤ 8 := by
  rcases show a = 0 ∨ a = 1 ∨ a = 2 ∨ a = 3 by omega with rfl | rfl | rfl | rfl <;> decide
theorem sz_lv {e : Nat} (h : szz e = 4 ∨ szz e = 8 ∨ szz e = 16) : 2 ≤ e ∧ e ≤ 4 := by
  rcases h with h | h | h
  · rw [szz_inj (h.trans (show (4 : Int) = szz 2 from rfl))]; omega
  · rw [szz_inj (h.trans (show (8 : Int) = szz 3 from rfl))]; omega
  · rw [szz_inj (h.trans (show (16 : Int) = szz 4 from rfl))]; omega
theorem top_le {t : List Int} (ht : okQ t) (h4 : t.length % 4 = 0) (h0 : t.length ≠ 0) : lvT t (topT t) ≤ 4 ∧ (clT t (topT t)).length ≤ 256 := by
  obtain ⟨j, hj⟩ : ∃ j, t.length / 4 = j + 1 := ⟨t.length / 4 - 1, by omega⟩
  have ok := ht j (by omega) 0 (by omega)
  simp only [Int.natCast_zero] at ok
  have e : topT t = (j : Int) + 2 := by unfold topT; omega
  have hl : lvT t (topT t) ≤ 4 := by rw [e, lvT_new (by omega)]; omega
  refine ⟨hl, ?_⟩
  rw [clT_len ht (t.length / 4) (topT t) (by unfold topT; omega) (by unfold topT; omega) (by omega)]
  have h16 : 2 ^ lvT t (topT t) ≤ 2 ^ 4 := Nat.pow_le_pow_right (by omega) hl
  exact Nat.mul_le_mul h16 h16
theorem tfP_len {t : List Int} : (selL (tfP t) (clT t (topT t))).length ≤ 1000 := selL_len fun h => by
  have := (top_le h.2.1 h.1.2.2 h.1.1).2
  omega
theorem okJ_snoc {t : List Int} {i : Nat} (hm : ∀ p : Nat, p < i → okJ t p) (h : okJ t i) : ∀ p : Nat, p < i + 1 → okJ t p := fun p hp => by
  by_cases e : p = i
  · subst e; exact h
  · exact hm p (by omega)
theorem C.impl_FieldOfTree_1 {i k h : Int} {po pq ph v z : Value} {Sv : Rg} {t : List Int} {j : Nat} {H : Hp} {K : Value → Hp → Prop} (hpo : Cel H po [v]) (hpq : Cel H pq [z]) (hph : Cel H ph [.int .i64 h]) (hv : Fam H v Sv (famT t j)) (hz : Sl eI H z (rowL 4 t j)) (hzl : (rowL 4 t j).length = 4) (ok0 : ∀ p : Nat, p < j + 1 → okJ t p) (hh : h = szz (lvT t (entT t j 0)))
    (i0 : 0 ≤ i) (i1 : i < 2 * h) (k0 : 0 ≤ k) (k1 : k < 2 * h) (hk : ∀ H', Le H H' → K (.int .i64 (gT t j i k)) H') : HT prg I.impl_FieldOfTree_1 [.int .i64 i, .int .i64 k, po, pq, ph].toArray H K := by
 have ok := ok0 j (by omega)
 have zp := szz_pos (lvT t (entT t j 0))
 have l0 := (ok 0 (by omega)).2.2
 simp only [Int.natCast_zero] at l0
 have z8 := szz_8 l0
 have di := div01 (z := h) (m := i) (by omega) i0 (by omega)
 have dk := div01 (z := h) (m := k) (by omega) k0 (by omega)
 have mi0 := Int.emod_nonneg i (show h ≠ 0 by omega)
 have mi1 := Int.emod_lt_of_pos i (show 0 < h by omega)
 have mk0 := Int.emod_nonneg k (show h ≠ 0 by omega)
 have mk1 := Int.emod_lt_of_pos k (show 0 < h by omega)
 obtain ⟨q, hq4, hq⟩ : ∃ q : Nat, q < 4 ∧ i / h * 2 + k / h = (q : Int) := ⟨(i / h * 2 + k / h).toNat, by omega, by omega⟩
 obtain ⟨a, b, c⟩ := ok q hq4
 have e := row_ent (t := t) (i := j) hq4
 refine R.impl_FieldOfTree_1 ?_
 unfold F.impl_FieldOfTree_1
 refine ob_i (hpo.ld0 rfl) ?_
 refine ob_i (hpq.ld0 rfl) ?_
 refine ob_i (hph.ld0 rfl) ?_
 refine ob_i (vInt_quoN (by omega) (by omega) (by omega)) ?_
 refine ob_i (vInt_mul (by omega) (by omega)) ?_
 refine ob_i (hph.ld0 rfl) ?_
 refine ob_i (vInt_quoN (by omega) (by omega) (by omega)) ?_
 refine ob_i (vInt_add (by omega) (by omega)) ?_
 rw [hq]
 refine ob_i (hz.ix (by omega) (by omega)) ?_
 refine ob_i (hz.ld 0 (by omega) (by omega)) ?_
 rw [e]
 obtain ⟨P, y, e1, oP, oy, _, _⟩ := hv.el (i := entT t j q) a.1 (by rw [famT_len]; omega) (famT_at a.1 (by omega))
 refine ob_i e1 ?_
 refine ob_i (oP.ldn rfl) ?_
 refine ob_i (hph.ld0 rfl) ?_
 refine ob_i (vInt_remN (by omega) (by omega)) ?_
 refine ob_i (hph.ld0 rfl) ?_
 refine ob_i (vInt_remN (by omega) (by omega)) ?_
 replace oy : Ro eI H y (clT t (entT t j q)) := oy
 have hlen := clT_lenN j (entT t j q) (fun p hp => ok0 p (by omega)) a.1 a.2
 have hL : ((clT t (entT t j q)).length : Int) = h * h := by rw [hlen, Int.natCast_mul, szz_cast, b, ← hh]
 have hpl := place_lt (c := h) (r := h) mi0 mi1 mk0 mk1
 have hm0 := Int.mul_nonneg mi0 (show 0 ≤ h by omega)
 have hmm := Int.mul_le_mul_of_nonneg_right (show h ≤ 8 by omega) (show 0 ≤ h by omega)
 have hbh : szz (lvT t (entT t j q)) = h := by rw [b, hh]
 simp only [hbh]
 refine C.impl_Field_at oy.sl hm0 (by omega) (by omega) (by omega) (by omega) (fun H' le => ⟨le, ?_⟩)
 have hr := hk H' le
 unfold gT makQ at hr
 rw [← hh, hq, clP_T (by omega)] at hr
 exact hr
end Go.Proofs.Ythmdmbbdjbhcoaa
/- Fields that are read back from their quarters, by the program. -/
namespace Go.Proofs.Ythmdmbbdjbhcoaa
open HL
set_option maxRecDepth 100000
theorem C.impl_FieldOfTree {vt : Value} {t : List Int}  {H : Hp} {K : Value → Hp → Prop} (hvt0 : Sl eI H vt t) (k1 : t.length ≤ 9223372036854775807)
    (hk : ∀ u1 H', Own eI H' u1 (selL (tfP t) (clT t (topT t))) → Nw H u1 → Le H H' → K (.tuple #[(.agg #[(.int .i64 (selI (tfP t) (szz (lvT t (topT t))))), (.int .i64 (selI (tfP t) (szz (lvT t (topT t))))), u1]), (.bool (decide (tfP t)))]) H') : HT prg I.impl_FieldOfTree [vt].toArray H K := by
 have lE := Le.refl H
 have hvt := hvt0
 refine R.impl_FieldOfTree ?_
 unfold F.impl_FieldOfTree
 refine nw_i (fun p2 H1 op2 nn2 le3 => ?_)
 have np2 : Nw H p2 := nn2.le lE
 replace hvt := hvt.le le3
 replace lE := lE.trans le3
 replace op2 : Cel H1 p2 [(.int .i64 (0)), (.int .i64 (0)), (.slice none 0 0)] := op2
 refine nw_i (fun p3 H4 op3 nn5 le6 => ?_)
 have ap2Xp3 : Apart p2 p3 := op2.apart nn5
 have np3 : Nw H p3 := nn5.le lE
 replace op2 := op2.le le6
 replace hvt := hvt.le le6
 replace lE := lE.trans le6
 replace op3 : Cel H4 p3 [(.bool false)] := op3
 refine ob_i (hvt.len) ?_
 refine ob_i (vInt_eql _ _ _) ?_
 by_cases hc7 : (((t).length : Int)) = 0
 ·skip
  refine gop_e (decide_eq_true hc7) ?_
  refine gop_st ?_
  refine gop_e (decide_eq_true hc7) ?_
  refine gop_st ?_
  refine gop_e (decide_eq_true hc7) ?_
  refine gop_st ?_
  refine ob_i (vPick_et (decide_eq_true hc7) _ _) ?_
  refine gop_st ?_
  refine gop_st ?_
  refine gop_st ?_
  refine gop_st ?_
  refine ob_i (vPick_t _ _) ?_
  refine cnd_t1 ?_
  refine ob_i (a := (.agg #[(.int .i64 (0)), (.int .i64 (0)), (.slice none 0 0)])) (by rfl) ?_
  refine op2.stn (ws := [(.int .i64 (0)), (.int .i64 (0)), (.slice none 0 0)]) rfl rfl (oc1 rfl (oc1 rfl (oc1 rfl oc0))) (fun H8 op2 off9 => ?_)
  replace op3 := op3.off off9 ap2Xp3.symm
  replace hvt := hvt0.le (off9.le lE np2)
  replace lE := off9.le lE np2
  replace op2 : Cel H8 p2 [(.int .i64 (0)), (.int .i64 (0)), (.slice none 0 0)] := op2
  refine op3.st0 (by simp) rfl rfl (fun H10 op3 off11 => ?_)
  replace op2 := op2.off off11 ap2Xp3
  replace hvt := hvt0.le (off11.le lE np3)
  replace lE := off11.le lE np3
  replace op3 : Cel H10 p3 [(.bool false)] := op3
  refine ob_i (op2.ldn rfl) ?_
  refine ob_i (op3.ld0 rfl) ?_
  skip
  have hok : ¬ (tfP t) := by intro h; have h0 := h.1; first | (exfalso; omega) | exact absurd (sq_clT h.2.1 h0.2.2 h.2.2.1) (by assumption) | exact absurd h.2.2.2 (by assumption)
  exact keq (K := K) (by rw [show ((selI (tfP t) (szz (lvT t (topT t)))) : Int) = (0) from by first | exact selI_t hok | exact selI_f hok]; rw [decide_eq_false (show ¬ (tfP t) from by exact hok)]) (hk  (.slice none 0 0) _ (Own.cast (show [] = selL (tfP t) (clT t (topT t)) by exact (selL_f hok).symm) (Own.nil_of none)) (fun b hb => by simp [bk] at hb)  lE)
 ·skip
  refine gop_e (decide_eq_false hc7) ?_
  refine gop_rf ?_
  refine gop_e (decide_eq_false hc7) ?_
  refine gop_rf ?_
  refine ob_i (hvt.len) ?_
  refine gop_e (decide_eq_false hc7) ?_
  refine gop_rf ?_
  refine ob_i (vInt_gtr _ _ _) ?_
  refine ob_i (vPick_ef (decide_eq_false hc7) _ _) ?_
  by_cases hc12 : 1024 < (((t).length : Int))
  ·skip
   refine gop_e (decide_eq_true hc12) ?_
   refine gop_st ?_
   refine gop_e (decide_eq_true hc12) ?_
   refine gop_st ?_
   refine gop_e (decide_eq_true hc12) ?_
   refine gop_st ?_
   refine gop_e (decide_eq_true hc12) ?_
   refine gop_st ?_
   refine ob_i (vPick_et (decide_eq_true hc12) _ _) ?_
   refine cnd_t1 ?_
   refine ob_i (a := (.agg #[(.int .i64 (0)), (.int .i64 (0)), (.slice none 0 0)])) (by rfl) ?_
   refine op2.stn (ws := [(.int .i64 (0)), (.int .i64 (0)), (.slice none 0 0)]) rfl rfl (oc1 rfl (oc1 rfl (oc1 rfl oc0))) (fun H13 op2 off14 => ?_)
   replace op3 := op3.off off14 ap2Xp3.symm
   replace hvt := hvt0.le (off14.le lE np2)
   replace lE := off14.le lE np2
   replace op2 : Cel H13 p2 [(.int .i64 (0)), (.int .i64 (0)), (.slice none 0 0)] := op2
   refine op3.st0 (by simp) rfl rfl (fun H15 op3 off16 => ?_)
   replace op2 := op2.off off16 ap2Xp3
   replace hvt := hvt0.le (off16.le lE np3)
   replace lE := off16.le lE np3
   replace op3 : Cel H15 p3 [(.bool false)] := op3
   refine ob_i (op2.ldn rfl) ?_
   refine ob_i (op3.ld0 rfl) ?_
   skip
   have hok : ¬ (tfP t) := by intro h; have h0 := h.1; first | (exfalso; omega) | exact absurd (sq_clT h.2.1 h0.2.2 h.2.2.1) (by assumption) | exact absurd h.2.2.2 (by assumption)
   exact keq (K := K) (by rw [show ((selI (tfP t) (szz (lvT t (topT t)))) : Int) = (0) from by first | exact selI_t hok | exact selI_f hok]; rw [decide_eq_false (show ¬ (tfP t) from by exact hok)]) (hk  (.slice none 0 0) _ (Own.cast (show [] = selL (tfP t) (clT t (topT t)) by exact (selL_f hok).symm) (Own.nil_of none)) (fun b hb => by simp [bk] at hb)  lE)
  ·skip
   refine gop_e (decide_eq_false hc12) ?_
   refine gop_rf ?_
   refine gop_e (decide_eq_false hc12) ?_
   refine gop_rf ?_
   refine ob_i (hvt.len) ?_
   refine gop_e (decide_eq_false hc12) ?_
   refine gop_rf ?_
   refine ob_i (vInt_remN (by omega) (by omega)) ?_
   refine gop_e (decide_eq_false hc12) ?_
   refine gop_rf ?_
   refine ob_i (vInt_neq _ _ _) ?_
   refine ob_i (vPick_ef (decide_eq_false hc12) _ _) ?_
   refine cnd_d (fun hg17 => ?_) (fun hg17 => ?_)
   ·skip
    refine ob_i (a := (.agg #[(.int .i64 (0)), (.int .i64 (0)), (.slice none 0 0)])) (by rfl) ?_
    refine op2.stn (ws := [(.int .i64 (0)), (.int .i64 (0)), (.slice none 0 0)]) rfl rfl (oc1 rfl (oc1 rfl (oc1 rfl oc0))) (fun H18 op2 off19 => ?_)
    replace op3 := op3.off off19 ap2Xp3.symm
    replace hvt := hvt0.le (off19.le lE np2)
    replace lE := off19.le lE np2
    replace op2 : Cel H18 p2 [(.int .i64 (0)), (.int .i64 (0)), (.slice none 0 0)] := op2
    refine op3.st0 (by simp) rfl rfl (fun H20 op3 off21 => ?_)
    replace op2 := op2.off off21 ap2Xp3
    replace hvt := hvt0.le (off21.le lE np3)
    replace lE := off21.le lE np3
    replace op3 : Cel H20 p3 [(.bool false)] := op3
    refine ob_i (op2.ldn rfl) ?_
    refine ob_i (op3.ld0 rfl) ?_
    skip
    have hok : ¬ (tfP t) := by intro h; have h0 := h.1; first | (exfalso; omega) | exact absurd (sq_clT h.2.1 h0.2.2 h.2.2.1) (by assumption) | exact absurd h.2.2.2 (by assumption)
    exact keq (K := K) (by rw [show ((selI (tfP t) (szz (lvT t (topT t)))) : Int) = (0) from by first | exact selI_t hok | exact selI_f hok]; rw [decide_eq_false (show ¬ (tfP t) from by exact hok)]) (hk  (.slice none 0 0) _ (Own.cast (show [] = selL (tfP t) (clT t (topT t)) by exact (selL_f hok).symm) (Own.nil_of none)) (fun b hb => by simp [bk] at hb)  lE)
   ·skip
    refine bS_i (enc := eI) (l := [0]) (by omega) rfl (by kernel_rfl) (fun u22 H23 ou22 nn24 le26 => ?_)
    have ap2Xu22 : Apart p2 u22 := op2.apart nn24
    have ap3Xu22 : Apart p3 u22 := op3.apart nn24
    have nu22 : Nw H u22 := nn24.le lE
    replace op2 := op2.le le26
    replace op3 := op3.le le26
    replace hvt := hvt.le le26
    replace lE := lE.trans le26
    refine ob_i (a := (.agg #[(.int .i64 (1)), (.int .i64 (1)), u22])) (by obtain ⟨_, _, _, rfl⟩ := ou22.isSl; rfl) ?_
    refine bS_i (enc := eI) (l := [1]) (by omega) rfl (by kernel_rfl) (fun u27 H28 ou27 nn29 le31 => ?_)
    have ap2Xu27 : Apart p2 u27 := op2.apart nn29
    have ap3Xu27 : Apart p3 u27 := op3.apart nn29
    have au22Xu27 : Apart u22 u27 := ou22.apart nn29
    have nu27 : Nw H u27 := nn29.le lE
    replace op2 := op2.le le31
    replace op3 := op3.le le31
    replace ou22 := ou22.le le31
    replace hvt := hvt.le le31
    replace lE := lE.trans le31
    refine ob_i (a := (.agg #[(.int .i64 (1)), (.int .i64 (1)), u27])) (by obtain ⟨_, _, _, rfl⟩ := ou27.isSl; rfl) ?_
    refine bSE_i (enc := encFv) (n := 3) (l := ([⟨1, 1, u22⟩, ⟨1, 1, u27⟩] : List Fv)) (by omega) rfl encFv_n (by kernel_rfl) (fun fm H32 ofm nn33 le35 => ?_)
    have ap2Xfm : Apart p2 fm := op2.apart nn33
    have ap3Xfm : Apart p3 fm := op3.apart nn33
    have au22Xfm : Apart u22 fm := ou22.apart nn33
    have au27Xfm : Apart u27 fm := ou27.apart nn33
    have nfm : Nw H fm := nn33.le lE
    replace op2 := op2.le le35
    replace op3 := op3.le le35
    replace ou22 := ou22.le le35
    replace ou27 := ou27.le le35
    replace hvt := hvt.le le35
    replace lE := lE.trans le35
    obtain ⟨Sfm, of36, hS36⟩ := Fam.two_of ofm ou22 ou27 au22Xfm.symm au27Xfm.symm au22Xu27
    replace ap2Xfm : Apt p2 Sfm := Apt.of_three hS36 ap2Xfm ap2Xu22 ap2Xu27
    replace ap3Xfm : Apt p3 Sfm := Apt.of_three hS36 ap3Xfm ap3Xu22 ap3Xu27
    replace nfm : Nws H Sfm := Nws.of_three hS36 nfm nu22 nu27
    replace ofm : Fam H32 fm Sfm ([⟨1, 1, [0]⟩, ⟨1, 1, [1]⟩]) := of36
    refine nw_i (fun po H37 opo nn38 le39 => ?_)
    have ap2Xpo : Apart p2 po := op2.apart nn38
    have ap3Xpo : Apart p3 po := op3.apart nn38
    have afmXpo : Apt Sfm po := Apt.of_nw ofm.known nn38
    have npo : Nw H po := nn38.le lE
    replace op2 := op2.le le39
    replace op3 := op3.le le39
    replace ofm := ofm.le le39
    replace hvt := hvt.le le39
    replace lE := lE.trans le39
    replace opo : Cel H37 po [(.slice none 0 0)] := opo
    refine opo.st0 (by simp) ofm.one ofm.cells (fun H40 opo off41 => ?_)
    replace op2 := op2.off off41 ap2Xpo
    replace op3 := op3.off off41 ap3Xpo
    replace ofm := ofm.off off41 afmXpo
    replace hvt := hvt0.le (off41.le lE npo)
    replace lE := off41.le lE npo
    replace opo : Cel H40 po [fm] := opo
    refine jn_i (fun σ' H' => ∃ v, ∃ Sv, σ' 0 = vt ∧ σ' 2 = p2 ∧ σ' 3 = p3 ∧ σ' 4 = po ∧ Cel H' p2 [(.int .i64 (0)), (.int .i64 (0)), (.slice none 0 0)] ∧ Cel H' p3 [(.bool false)] ∧ Cel H' po [v] ∧ Fam H' v Sv (famT t (t.length / 4)) ∧ Nws H Sv ∧ Apt p2 Sv ∧ Apt p3 Sv ∧ Apt po Sv ∧ Le H H' ∧ okQ t) (fun σ42 H42 hP => ?_) (fun J42 hJ42 => ?_)
    ·skip
     obtain ⟨v, Sv, g0L42, g2L42, g3L42, g4L42, op2, op3, opo, ov, nv, ap2Xv, ap3Xv, apoXv, lE, hm0⟩ := hP
     have hvt := hvt0.le lE
     try simp only [g0L42, g2L42, g3L42, g4L42]
     have fl := famT_len t (t.length / 4)
     refine ob_i (opo.ld0 rfl) ?_
     refine ob_i (opo.ld0 rfl) ?_
     refine ob_i (ov.len) ?_
     refine ob_i (vInt_sub (by omega) (by omega)) ?_
     obtain ⟨P43, y44, hb45a, oP43, oy44, hb45p, hb45x⟩ := ov.elO (i := (((famT t (t.length / 4)).length : Int)) - 1) (f := ⟨szz (lvT t (topT t)), szz (lvT t (topT t)), clT t (topT t)⟩) (by omega) (by first | omega | (simp; omega)) (by rw [show ((((famT t (t.length / 4)).length : Int)) - 1) = topT t by rw [famT_len]; unfold topT; omega]; exact famT_at (by unfold topT; omega) (by unfold topT; omega))
     have ap2Xy44 : Apart p2 y44 := fun b h1 h2 => ap2Xv b h1 (hb45x b h2)
     have ap3Xy44 : Apart p3 y44 := fun b h1 h2 => ap3Xv b h1 (hb45x b h2)
     have ny44 : Nw H y44 := fun b h => nv b (hb45x b h)
     replace oP43 : CelR H42 P43 [(.int .i64 (szz (lvT t (topT t)))), (.int .i64 (szz (lvT t (topT t)))), y44] := oP43
     replace oy44 : Own eI H42 y44 (clT t (topT t)) := oy44
     refine ob_i (hb45a) ?_
     refine ob_i (oP43.ldn rfl) ?_
     refine nw_i (fun p9 H46 op9 nn47 le48 => ?_)
     have ap2Xp9 : Apart p2 p9 := op2.apart nn47
     have ap3Xp9 : Apart p3 p9 := op3.apart nn47
     have ay44Xp9 : Apart y44 p9 := oy44.apart nn47
     have np9 : Nw H p9 := nn47.le lE
     replace op2 := op2.le le48
     replace op3 := op3.le le48
     replace oy44 := oy44.le le48
     replace hvt := hvt.le le48
     replace lE := lE.trans le48
     replace op9 : Cel H46 p9 [(.int .i64 (0)), (.int .i64 (0)), (.slice none 0 0)] := op9
     refine op9.stn (ws := [(.int .i64 (szz (lvT t (topT t)))), (.int .i64 (szz (lvT t (topT t)))), y44]) rfl rfl (oc1 rfl (oc1 rfl (oc1 oy44.one oc0))) (fun H49 op9 off50 => ?_)
     replace op2 := op2.off off50 ap2Xp9
     replace op3 := op3.off off50 ap3Xp9
     replace oy44 := oy44.off off50 ay44Xp9
     replace hvt := hvt0.le (off50.le lE np9)
     replace lE := off50.le lE np9
     replace op9 : Cel H49 p9 [(.int .i64 (szz (lvT t (topT t)))), (.int .i64 (szz (lvT t (topT t)))), y44] := op9
     refine ob_i (op9.ldn rfl) ?_
     refine C.impl_isSquare oy44.sl (by have := (top_le hm0 (by omega) (by omega)).2; omega) (fun   H51    le52 => ?_)
     replace op2 := op2.le le52
     replace op3 := op3.le le52
     replace oy44 := oy44.le le52
     replace op9 := op9.le le52
     replace hvt := hvt.le le52
     replace lE := lE.trans le52
     refine ob_nd (fun hc53 => ?_) (fun hc53 => ?_)
     ·skip
      refine gop_rf ?_
      refine ob_i (op9.ldn rfl) ?_
      refine gop_rf ?_
      refine C.impl_Field_tree oy44.sl (by assumption) (fun  u56 H54 ou56 nn57  le55 => ?_)
      replace op2 := op2.le le55
      replace op3 := op3.le le55
      replace oy44 := oy44.le le55
      replace op9 := op9.le le55
      replace hvt := hvt.le le55
      replace lE := lE.trans le55
      refine gop_rf ?_
      refine gop_rf ?_
      refine C.slices_Equal_int64Zint64 ou56.sl hvt (by have := tre_len (by assumption : sqP _ _ _); omega) ?_
      refine gop_rf ?_
      refine ob_nd (fun hc58 => ?_) (fun hc58 => ?_)
      ·skip
       refine ob_i (vPick_f _ _) ?_
       refine cnd_f1 ?_
       refine ob_i (op9.ldn rfl) ?_
       refine op2.stn (ws := [(.int .i64 (szz (lvT t (topT t)))), (.int .i64 (szz (lvT t (topT t)))), y44]) rfl rfl (oc1 rfl (oc1 rfl (oc1 oy44.one oc0))) (fun H59 op2 off60 => ?_)
       replace op3 := op3.off off60 ap2Xp3.symm
       replace oy44 := oy44.off off60 ap2Xy44.symm
       replace hvt := hvt0.le (off60.le lE np2)
       replace lE := off60.le lE np2
       replace op2 : Cel H59 p2 [(.int .i64 (szz (lvT t (topT t)))), (.int .i64 (szz (lvT t (topT t)))), y44] := op2
       refine op3.st0 (by simp) rfl rfl (fun H61 op3 off62 => ?_)
       replace op2 := op2.off off62 ap2Xp3
       replace oy44 := oy44.off off62 ap3Xy44.symm
       replace hvt := hvt0.le (off62.le lE np3)
       replace lE := off62.le lE np3
       replace op3 : Cel H61 p3 [(.bool true)] := op3
       refine ob_i (op2.ldn rfl) ?_
       refine ob_i (op3.ld0 rfl) ?_
       skip
       have hok : tfP t := by exact ⟨⟨by omega, by omega, by omega⟩, hm0, sz_lv (show sqP (szz (lvT t (topT t))) (szz (lvT t (topT t))) (clT t (topT t)) by assumption).2.2, by assumption⟩
       exact keq (K := K) (by rw [show ((selI (tfP t) (szz (lvT t (topT t)))) : Int) = (szz (lvT t (topT t))) from by first | exact selI_t hok | exact selI_f hok]; rw [decide_eq_true (show (tfP t) from by exact hok)]) (hk  y44 _ (Own.cast (show clT t (topT t) = selL (tfP t) (clT t (topT t)) by exact (selL_t hok).symm) oy44) ny44  lE)
      ·skip
       refine ob_i (vPick_f _ _) ?_
       refine cnd_t1 ?_
       refine ob_i (a := (.agg #[(.int .i64 (0)), (.int .i64 (0)), (.slice none 0 0)])) (by rfl) ?_
       refine op2.stn (ws := [(.int .i64 (0)), (.int .i64 (0)), (.slice none 0 0)]) rfl rfl (oc1 rfl (oc1 rfl (oc1 rfl oc0))) (fun H63 op2 off64 => ?_)
       replace op3 := op3.off off64 ap2Xp3.symm
       replace hvt := hvt0.le (off64.le lE np2)
       replace lE := off64.le lE np2
       replace op2 : Cel H63 p2 [(.int .i64 (0)), (.int .i64 (0)), (.slice none 0 0)] := op2
       refine op3.st0 (by simp) rfl rfl (fun H65 op3 off66 => ?_)
       replace op2 := op2.off off66 ap2Xp3
       replace hvt := hvt0.le (off66.le lE np3)
       replace lE := off66.le lE np3
       replace op3 : Cel H65 p3 [(.bool false)] := op3
       refine ob_i (op2.ldn rfl) ?_
       refine ob_i (op3.ld0 rfl) ?_
       skip
       have hok : ¬ (tfP t) := by intro h; have h0 := h.1; first | (exfalso; omega) | exact absurd (sq_clT h.2.1 h0.2.2 h.2.2.1) (by assumption) | exact absurd h.2.2.2 (by assumption)
       exact keq (K := K) (by rw [show ((selI (tfP t) (szz (lvT t (topT t)))) : Int) = (0) from by first | exact selI_t hok | exact selI_f hok]; rw [decide_eq_false (show ¬ (tfP t) from by exact hok)]) (hk  (.slice none 0 0) _ (Own.cast (show [] = selL (tfP t) (clT t (topT t)) by exact (selL_f hok).symm) (Own.nil_of none)) (fun b hb => by simp [bk] at hb)  lE)
     ·skip
      refine gop_st ?_
      refine gop_st ?_
      refine gop_st ?_
      refine gop_st ?_
      refine gop_st ?_
      refine ob_i (vPick_t _ _) ?_
      refine cnd_t1 ?_
      refine ob_i (a := (.agg #[(.int .i64 (0)), (.int .i64 (0)), (.slice none 0 0)])) (by rfl) ?_
      refine op2.stn (ws := [(.int .i64 (0)), (.int .i64 (0)), (.slice none 0 0)]) rfl rfl (oc1 rfl (oc1 rfl (oc1 rfl oc0))) (fun H67 op2 off68 => ?_)
      replace op3 := op3.off off68 ap2Xp3.symm
      replace hvt := hvt0.le (off68.le lE np2)
      replace lE := off68.le lE np2
      replace op2 : Cel H67 p2 [(.int .i64 (0)), (.int .i64 (0)), (.slice none 0 0)] := op2
      refine op3.st0 (by simp) rfl rfl (fun H69 op3 off70 => ?_)
      replace op2 := op2.off off70 ap2Xp3
      replace hvt := hvt0.le (off70.le lE np3)
      replace lE := off70.le lE np3
      replace op3 : Cel H69 p3 [(.bool false)] := op3
      refine ob_i (op2.ldn rfl) ?_
      refine ob_i (op3.ld0 rfl) ?_
      skip
      have hok : ¬ (tfP t) := by intro h; have h0 := h.1; first | (exfalso; omega) | exact absurd (sq_clT h.2.1 h0.2.2 h.2.2.1) (by assumption) | exact absurd h.2.2.2 (by assumption)
      exact keq (K := K) (by rw [show ((selI (tfP t) (szz (lvT t (topT t)))) : Int) = (0) from by first | exact selI_t hok | exact selI_f hok]; rw [decide_eq_false (show ¬ (tfP t) from by exact hok)]) (hk  (.slice none 0 0) _ (Own.cast (show [] = selL (tfP t) (clT t (topT t)) by exact (selL_f hok).symm) (Own.nil_of none)) (fun b hb => by simp [bk] at hb)  lE)
    refine C.slices_Chunk hvt (by omega) (fun ps71 pn72 H73 ops71 opn72 nn75 nn76 aps71Xpn72 le74 => ?_)
    have afmXps71 : Apt Sfm ps71 := Apt.of_nw ofm.known nn75
    have apoXps71 : Apart po ps71 := opo.apart nn75
    have afmXpn72 : Apt Sfm pn72 := Apt.of_nw ofm.known nn76
    have apoXpn72 : Apart po pn72 := opo.apart nn76
    replace op2 := op2.le le74
    replace op3 := op3.le le74
    replace ofm := ofm.le le74
    replace opo := opo.le le74
    replace hvt := hvt.le le74
    replace lE := lE.trans le74
    replace ops71 : Cel H73 ps71 [vt] := ops71
    replace opn72 : Cel H73 pn72 [(.int .i64 (4))] := opn72
    refine rgE_i ((t.length / 4)) (fun (i : Nat) => [chV vt (i * 4) 4]) (fun (i : Nat) H' => ∃ v, ∃ Sv, Cel H' p2 [(.int .i64 (0)), (.int .i64 (0)), (.slice none 0 0)] ∧ Cel H' p3 [(.bool false)] ∧ Cel H' po [v] ∧ Cel H' ps71 [vt] ∧ Cel H' pn72 [(.int .i64 (4))] ∧ Fam H' v Sv (famT t i) ∧ Nws H Sv ∧ Apt p2 Sv ∧ Apt p3 Sv ∧ Apt po Sv ∧ Apt ps71 Sv ∧ Apt pn72 Sv ∧ Le H H' ∧ (∀ p : Nat, p < i → okJ t p)) trivial (fun _ => rfl) ⟨fm, _, op2, op3, opo, ops71, opn72, (Fam.cast (famT_zero t).symm ofm), nfm, ap2Xfm, ap3Xfm, afmXpo.symm, afmXps71.symm, afmXpn72.symm, lE, (fun p hp => by omega)⟩ (fun i H77 σ77 Q77 hiN hσ77 qn77 qr77 qx77 hI77 => ?_) (fun H77 hI77 => ?_) (fun yv J St H1 K1 hJ h0 hst hk1 hs1 => ?_)
    ·obtain ⟨v, Sv, op2, op3, opo, ops71, opn72, ov, nv, ap2Xv, ap3Xv, apoXv, aps71Xv, apn72Xv, lE, hm0⟩ := hI77
     have hvt := hvt0.le lE
     have hz780 : Sl eI H (chV vt (i * 4) 4) (rowL 4 t i) := (chV_sl hvt0 (lo := i * 4) (c := 4) (by omega)).2
     obtain ⟨z78, ez78⟩ : ∃ z, z = chV vt (i * 4) 4 := ⟨_, rfl⟩
     rw [← ez78] at hz780
     have hz78 := hz780.le lE
     have rz78 : (rowL 4 t i).length = 4 := rowL_len (r := (t.length / 4)) (by omega) (by omega)
     have g2L77 : σ77 2 = p2 := by rw [hσ77]; exact rfl
     have g3L77 : σ77 3 = p3 := by rw [hσ77]; exact rfl
     have g4L77 : σ77 4 = po := by rw [hσ77]; exact rfl
     have g32L77 : σ77 32 = z78 := by rw [hσ77, ← ez78]; rfl
     try simp only [g32L77]
     have fl := famT_len t i
     refine nw_i (fun pq H79 opq nn80 le81 => ?_)
     have ap2Xpq : Apart p2 pq := op2.apart nn80
     have ap3Xpq : Apart p3 pq := op3.apart nn80
     have apoXpq : Apart po pq := opo.apart nn80
     have aps71Xpq : Apart ps71 pq := ops71.apart nn80
     have apn72Xpq : Apart pn72 pq := opn72.apart nn80
     have avXpq : Apt Sv pq := Apt.of_nw ov.known nn80
     have npq : Nw H pq := nn80.le lE
     replace op2 := op2.le le81
     replace op3 := op3.le le81
     replace opo := opo.le le81
     replace ops71 := ops71.le le81
     replace opn72 := opn72.le le81
     replace ov := ov.le le81
     replace hvt := hvt.le le81
     replace hz78 := hz78.le le81
     replace lE := lE.trans le81
     replace opq : Cel H79 pq [(.slice none 0 0)] := opq
     refine opq.st0 (by simp) hz78.one hz78.cells (fun H82 opq off83 => ?_)
     replace op2 := op2.off off83 ap2Xpq
     replace op3 := op3.off off83 ap3Xpq
     replace opo := opo.off off83 apoXpq
     replace ops71 := ops71.off off83 aps71Xpq
     replace opn72 := opn72.off off83 apn72Xpq
     replace ov := ov.off off83 avXpq
     replace hvt := hvt0.le (off83.le lE npq)
     replace hz78 := hz780.le (off83.le lE npq)
     replace lE := off83.le lE npq
     replace opq : Cel H82 pq [z78] := opq
     refine jn_i (fun σ' H' => σ' 4 = po ∧ σ' 5 = pq ∧ Cel H' p2 [(.int .i64 (0)), (.int .i64 (0)), (.slice none 0 0)] ∧ Cel H' p3 [(.bool false)] ∧ Cel H' po [v] ∧ Cel H' ps71 [vt] ∧ Cel H' pn72 [(.int .i64 (4))] ∧ Fam H' v Sv (famT t i) ∧ Cel H' pq [z78] ∧ Le H H' ∧ okJ t i) (fun σ84 H84 hP => ?_) (fun J84 hJ84 => ?_)
     ·skip
      obtain ⟨g4L84, g5L84, op2, op3, opo, ops71, opn72, ov, opq, lE, hok⟩ := hP
      have hvt := hvt0.le lE
      have hz78 := hz780.le lE
      try simp only [g4L84, g5L84]
      have zp := szz_pos (lvT t (at_ 0 (rowL 4 t i) 0))
      have l3 : lvT t (at_ 0 (rowL 4 t i) 0) ≤ 3 := by rw [row_ent0]; have := (hok 0 (by omega)).2.2; simpa using this
      have z8 := szz_8 l3
      refine ob_i (opo.ld0 rfl) ?_
      refine ob_i (opq.ld0 rfl) ?_
      refine ob_i (hz78.ix (by omega) (by omega)) ?_
      refine ob_i (hz78.ld 0 (by omega) (by omega)) ?_
      have hr0 : 0 ≤ (at_ 0 (rowL 4 t i) 0) ∧ (at_ 0 (rowL 4 t i) 0) ≤ (i : Int) + 1 := by rw [row_ent0]; first | exact ent_first hq0 (by rw [← row_ent (by omega)]; omega) | (have := (hok 0 (by omega)).1; simpa using this)
      obtain ⟨P85, y86, hb87a, oP85, oy86, hb87p, hb87x⟩ := ov.el (i := at_ 0 (rowL 4 t i) (0)) (f := ⟨szz (lvT t (at_ 0 (rowL 4 t i) (0))), szz (lvT t (at_ 0 (rowL 4 t i) (0))), clT t (at_ 0 (rowL 4 t i) (0))⟩) (by omega) (by first | omega | (simp; omega)) (famT_at (by omega) (by omega))
      replace oP85 : CelR H84 P85 [(.int .i64 (szz (lvT t (at_ 0 (rowL 4 t i) (0))))), (.int .i64 (szz (lvT t (at_ 0 (rowL 4 t i) (0))))), y86] := oP85
      replace oy86 : Ro eI H84 y86 (clT t (at_ 0 (rowL 4 t i) (0))) := oy86
      refine ob_i (hb87a) ?_
      refine ob_i (oP85.fa 0) ?_
      refine ob_i (oP85.ld 0 rfl) ?_
      refine nw_i (fun ph H88 oph nn89 le90 => ?_)
      have ap2Xph : Apart p2 ph := op2.apart nn89
      have ap3Xph : Apart p3 ph := op3.apart nn89
      have apoXph : Apart po ph := opo.apart nn89
      have aps71Xph : Apart ps71 ph := ops71.apart nn89
      have apn72Xph : Apart pn72 ph := opn72.apart nn89
      have avXph : Apt Sv ph := Apt.of_nw ov.known nn89
      have apqXph : Apart pq ph := opq.apart nn89
      have nph : Nw H ph := nn89.le lE
      replace op2 := op2.le le90
      replace op3 := op3.le le90
      replace opo := opo.le le90
      replace ops71 := ops71.le le90
      replace opn72 := opn72.le le90
      replace ov := ov.le le90
      replace opq := opq.le le90
      replace hvt := hvt.le le90
      replace hz78 := hz78.le le90
      replace lE := lE.trans le90
      replace oph : Cel H88 ph [(.int .i64 (0))] := oph
      refine oph.st0 (by simp) rfl rfl (fun H91 oph off92 => ?_)
      replace op2 := op2.off off92 ap2Xph
      replace op3 := op3.off off92 ap3Xph
      replace opo := opo.off off92 apoXph
      replace ops71 := ops71.off off92 aps71Xph
      replace opn72 := opn72.off off92 apn72Xph
      replace ov := ov.off off92 avXph
      replace opq := opq.off off92 apqXph
      replace hvt := hvt0.le (off92.le lE nph)
      replace hz78 := hz780.le (off92.le lE nph)
      replace lE := off92.le lE nph
      replace oph : Cel H91 ph [(.int .i64 (szz (lvT t (at_ 0 (rowL 4 t i) (0)))))] := oph
      refine ob_i (opo.ld0 rfl) ?_
      refine ob_i (oph.ld0 rfl) ?_
      refine ob_i (vInt_mul (by omega) (by omega)) ?_
      refine ob_i (oph.ld0 rfl) ?_
      refine ob_i (vInt_mul (by omega) (by omega)) ?_
      refine C.impl_madeField (g := gT t i) (by omega) (by omega) (by omega) (by omega) (fun H97c i97 k97 Z leZ hi97 hk97 hZ => ?_) (fun u93 H94 ou93 nn95 le96 => ?_)
      ·refine ⟨by kernel_rfl, ?_⟩
       replace opo := opo.le leZ
       replace ov := ov.le leZ
       replace opq := opq.le leZ
       replace oph := oph.le leZ
       replace hz78 := hz78.le leZ
       replace lE := lE.trans leZ
       have lZ := Le.refl H97c
       refine C.impl_FieldOfTree_1 (t := t) (j := i) opo opq oph ov hz78 rz78 (okJ_snoc hm0 hok) (congrArg (fun x => szz (lvT t x)) row_ent0) (by omega) (by omega) (by omega) (by omega) (fun H98 le99 => ?_)
       replace lE := lE.trans le99
       replace lZ := lZ.trans le99
       exact hZ _ lZ
      have ap2Xu93 : Apart p2 u93 := op2.apart nn95
      have ap3Xu93 : Apart p3 u93 := op3.apart nn95
      have apoXu93 : Apart po u93 := opo.apart nn95
      have aps71Xu93 : Apart ps71 u93 := ops71.apart nn95
      have apn72Xu93 : Apart pn72 u93 := opn72.apart nn95
      have avXu93 : Apt Sv u93 := Apt.of_nw ov.known nn95
      have nu93 : Nw H u93 := nn95.le lE
      replace op2 := op2.le le96
      replace op3 := op3.le le96
      replace opo := opo.le le96
      replace ops71 := ops71.le le96
      replace opn72 := opn72.le le96
      replace ov := ov.le le96
      replace hvt := hvt.le le96
      replace hz78 := hz78.le le96
      replace lE := lE.trans le96
      refine ⟨le96, ?_⟩
      refine bSE_one (enc := encFv) (x := (⟨2 * (szz (lvT t (at_ 0 (rowL 4 t i) (0)))), 2 * (szz (lvT t (at_ 0 (rowL 4 t i) (0)))), u93⟩ : Fv)) rfl rfl (by omega) (by omega) rfl (fun u100 H101 ou100 nn102 le104 => ?_) rfl
      replace op2 := op2.le le104
      replace op3 := op3.le le104
      replace opo := opo.le le104
      replace ops71 := ops71.le le104
      replace opn72 := opn72.le le104
      replace ov := ov.le le104
      replace ou93 := ou93.le le104
      replace hvt := hvt.le le104
      replace hz78 := hz78.le le104
      replace lE := lE.trans le104
      refine Fam.push ov rfl (ou100.sl encFv_n) ou93 avXu93.symm (by omega) (by first | omega | (simp; omega)) (fun u109 Su109 H105 ou109 off106 hb107 hx108 oxu93 => ?_)
      have ap2Xu109 : Apt p2 Su109 := Apt.push op2.known ap2Xv ap2Xu93 hb107
      have ap3Xu109 : Apt p3 Su109 := Apt.push op3.known ap3Xv ap3Xu93 hb107
      have apoXu109 : Apt po Su109 := Apt.push opo.known apoXv apoXu93 hb107
      have aps71Xu109 : Apt ps71 Su109 := Apt.push ops71.known aps71Xv aps71Xu93 hb107
      have apn72Xu109 : Apt pn72 Su109 := Apt.push opn72.known apn72Xv apn72Xu93 hb107
      have nu109 : Nws H Su109 := Nws.push lE nv nu93 hb107
      replace op2 := op2.offS off106 ap2Xv
      replace op3 := op3.offS off106 ap3Xv
      replace opo := opo.offS off106 apoXv
      replace ops71 := ops71.offS off106 aps71Xv
      replace opn72 := opn72.offS off106 apn72Xv
      replace hvt := hvt0.le (off106.le lE nv)
      replace hz78 := hz780.le (off106.le lE nv)
      replace lE := off106.le lE nv
      replace ou93 := oxu93.ro
      refine opo.st0 (by simp) ou109.one ou109.cells (fun H110 opo off111 => ?_)
      replace op2 := op2.off off111 ap2Xpo
      replace op3 := op3.off off111 ap3Xpo
      replace ops71 := ops71.off off111 apoXps71.symm
      replace opn72 := opn72.off off111 apoXpn72.symm
      replace ou109 := ou109.off off111 apoXu109.symm
      replace hvt := hvt0.le (off111.le lE npo)
      replace hz78 := hz780.le (off111.le lE npo)
      replace lE := off111.le lE npo
      replace opo : Cel H110 po [u109] := opo
      exact qn77 _ _ ⟨u109, _, op2, op3, opo, ops71, opn72, (Fam.cast (famT_succ (by have := (hok 0 (by omega)).1.2; simp only [Int.natCast_zero] at this; omega) (congrArg (fun x => szz (lvT t x)) row_ent0)).symm ou109), nu109, ap2Xu109, ap3Xu109, apoXu109, aps71Xu109, apn72Xu109, lE, (okJ_snoc hm0 hok)⟩
     refine ob_i (opq.ld0 rfl) ?_
     refine ob_i (hz78.len) ?_
     refine ⟨fun n' σ' H' => ∃ q : Nat, n' = 4 - q ∧ q ≤ 4 ∧ σ' 2 = p2 ∧ σ' 3 = p3 ∧ σ' 4 = po ∧ σ' 5 = pq ∧ σ' 33 = z78 ∧ σ' 34 = (.int .i64 (((rowL 4 t i).length : Int))) ∧ σ' 35 = (.int .i64 ((q : Int))) ∧ Cel H' p2 [(.int .i64 (0)), (.int .i64 (0)), (.slice none 0 0)] ∧ Cel H' p3 [(.bool false)] ∧ Cel H' po [v] ∧ Cel H' ps71 [vt] ∧ Cel H' pn72 [(.int .i64 (4))] ∧ Fam H' v Sv (famT t i) ∧ Cel H' pq [z78] ∧ Le H H' ∧ (∀ p : Nat, p < q → okK t i p),
      ⟨_, 0, rfl, by omega, g2L77, g3L77, g4L77, rfl, rfl, rfl, (congrArg (Value.int .i64) (by first | omega | rfl | (simp; done))), op2, op3, opo, ops71, opn72, ov, opq, lE, (fun p hp => by omega)⟩, ?_⟩
     rintro n112 σ112 H112 ⟨q, rfl, hqN, g2L112, g3L112, g4L112, g5L112, g33L112, g34L112, g35L112, op2, op3, opo, ops71, opn72, ov, opq, lE, hq0⟩
     have hvt := hvt0.le lE
     have hz78 := hz780.le lE
     try simp only [g2L112, g3L112, g4L112, g5L112, g33L112, g34L112, g35L112]
     refine ob_i (vInt_lss _ _ _) ?_
     refine cnd_d (fun hg113 => ?_) (fun hg113 => ?_)
     ·skip
      have tq := hg113
      refine ob_i (hz78.ix (by omega) (by omega)) ?_
      refine ob_i (hz78.ld 0 (by omega) (by omega)) ?_
      refine ob_i (opo.ld0 rfl) ?_
      refine ob_i (ov.len) ?_
      refine ob_i (vInt_sub (by omega) (by omega)) ?_
      refine C.impl_within  ?_
      refine ⟨Le.refl _, ?_⟩
      refine ob_nd (fun hc114 => ?_) (fun hc114 => ?_)
      ·skip
       refine gop_rf ?_
       refine ob_i (opo.ld0 rfl) ?_
       refine gop_rf ?_
       refine gop_rf ?_
       obtain ⟨P115, y116, hb117a, oP115, oy116, hb117p, hb117x⟩ := ov.el (i := at_ 0 (rowL 4 t i) ((q : Int))) (f := ⟨szz (lvT t (at_ 0 (rowL 4 t i) ((q : Int)))), szz (lvT t (at_ 0 (rowL 4 t i) ((q : Int)))), clT t (at_ 0 (rowL 4 t i) ((q : Int)))⟩) (by omega) (by first | omega | (simp; omega)) (famT_at (by omega) (by omega))
       replace oP115 : CelR H112 P115 [(.int .i64 (szz (lvT t (at_ 0 (rowL 4 t i) ((q : Int)))))), (.int .i64 (szz (lvT t (at_ 0 (rowL 4 t i) ((q : Int)))))), y116] := oP115
       replace oy116 : Ro eI H112 y116 (clT t (at_ 0 (rowL 4 t i) ((q : Int)))) := oy116
       refine ob_i (hb117a) ?_
       refine gop_rf ?_
       refine ob_i (oP115.fa 0) ?_
       refine gop_rf ?_
       refine ob_i (oP115.ld 0 rfl) ?_
       refine gop_rf ?_
       refine ob_i (opo.ld0 rfl) ?_
       refine gop_rf ?_
       refine ob_i (opq.ld0 rfl) ?_
       refine gop_rf ?_
       refine ob_i (hz78.ix (by omega) (by omega)) ?_
       refine gop_rf ?_
       refine ob_i (hz78.ld 0 (by omega) (by omega)) ?_
       refine gop_rf ?_
       have hr0 : 0 ≤ (at_ 0 (rowL 4 t i) 0) ∧ (at_ 0 (rowL 4 t i) 0) ≤ (i : Int) + 1 := by rw [row_ent0]; first | exact ent_first hq0 (by rw [← row_ent (by omega)]; omega) | (have := (hok 0 (by omega)).1; simpa using this)
       obtain ⟨P118, y119, hb120a, oP118, oy119, hb120p, hb120x⟩ := ov.el (i := at_ 0 (rowL 4 t i) (0)) (f := ⟨szz (lvT t (at_ 0 (rowL 4 t i) (0))), szz (lvT t (at_ 0 (rowL 4 t i) (0))), clT t (at_ 0 (rowL 4 t i) (0))⟩) (by omega) (by first | omega | (simp; omega)) (famT_at (by omega) (by omega))
       replace oP118 : CelR H112 P118 [(.int .i64 (szz (lvT t (at_ 0 (rowL 4 t i) (0))))), (.int .i64 (szz (lvT t (at_ 0 (rowL 4 t i) (0))))), y119] := oP118
       replace oy119 : Ro eI H112 y119 (clT t (at_ 0 (rowL 4 t i) (0))) := oy119
       refine ob_i (hb120a) ?_
       refine gop_rf ?_
       refine ob_i (oP118.fa 0) ?_
       refine gop_rf ?_
       refine ob_i (oP118.ld 0 rfl) ?_
       refine gop_rf ?_
       refine ob_i (vInt_neq _ _ _) ?_
       refine ob_i (vPick_f _ _) ?_
       by_cases hc121 : (szz (lvT t (at_ 0 (rowL 4 t i) ((q : Int))))) ≠ (szz (lvT t (at_ 0 (rowL 4 t i) (0))))
       ·skip
        refine gop_e (decide_eq_true hc121) ?_
        refine gop_st ?_
        refine gop_e (decide_eq_true hc121) ?_
        refine gop_st ?_
        refine gop_e (decide_eq_true hc121) ?_
        refine gop_st ?_
        refine gop_e (decide_eq_true hc121) ?_
        refine gop_st ?_
        refine gop_e (decide_eq_true hc121) ?_
        refine gop_st ?_
        refine gop_e (decide_eq_true hc121) ?_
        refine gop_st ?_
        refine ob_i (vPick_et (decide_eq_true hc121) _ _) ?_
        refine cnd_t1 ?_
        refine ob_i (a := (.agg #[(.int .i64 (0)), (.int .i64 (0)), (.slice none 0 0)])) (by rfl) ?_
        refine op2.stn (ws := [(.int .i64 (0)), (.int .i64 (0)), (.slice none 0 0)]) rfl rfl (oc1 rfl (oc1 rfl (oc1 rfl oc0))) (fun H122 op2 off123 => ?_)
        replace op3 := op3.off off123 ap2Xp3.symm
        replace hvt := hvt0.le (off123.le lE np2)
        replace hz78 := hz780.le (off123.le lE np2)
        replace lE := off123.le lE np2
        replace op2 : Cel H122 p2 [(.int .i64 (0)), (.int .i64 (0)), (.slice none 0 0)] := op2
        refine op3.st0 (by simp) rfl rfl (fun H124 op3 off125 => ?_)
        replace op2 := op2.off off125 ap2Xp3
        replace hvt := hvt0.le (off125.le lE np3)
        replace hz78 := hz780.le (off125.le lE np3)
        replace lE := off125.le lE np3
        replace op3 : Cel H124 p3 [(.bool false)] := op3
        refine qr77 _ _ ?_
        show ob (vLoadN 3 p2 H124) (fun w0 => ob (vLoad p3 H124) (fun w1 => K (.tuple #[w0, w1]) H124))
        refine ob_i (op2.ldn rfl) ?_
        refine ob_i (op3.ld0 rfl) ?_
        skip
        have hok : ¬ (tfP t) := by intro h; obtain ⟨k1, k2, k3⟩ := h.2.1 i (by omega) q (by omega); have er := row_ent (t := t) (i := i) (q := q) (by omega); rw [← er] at k1 k2 k3; rw [← row_ent0] at k2; first | (exfalso; omega) | (exact absurd (congrArg szz k2) hc121) | (have := szz_8 k3; exfalso; omega)
        exact keq (K := K) (by rw [show ((selI (tfP t) (szz (lvT t (topT t)))) : Int) = (0) from by first | exact selI_t hok | exact selI_f hok]; rw [decide_eq_false (show ¬ (tfP t) from by exact hok)]) (hk  (.slice none 0 0) _ (Own.cast (show [] = selL (tfP t) (clT t (topT t)) by exact (selL_f hok).symm) (Own.nil_of none)) (fun b hb => by simp [bk] at hb)  lE)
       ·skip
        refine gop_e (decide_eq_false hc121) ?_
        refine gop_rf ?_
        refine ob_i (opo.ld0 rfl) ?_
        refine gop_e (decide_eq_false hc121) ?_
        refine gop_rf ?_
        refine gop_e (decide_eq_false hc121) ?_
        refine gop_rf ?_
        obtain ⟨P126, y127, hb128a, oP126, oy127, hb128p, hb128x⟩ := ov.el (i := at_ 0 (rowL 4 t i) ((q : Int))) (f := ⟨szz (lvT t (at_ 0 (rowL 4 t i) ((q : Int)))), szz (lvT t (at_ 0 (rowL 4 t i) ((q : Int)))), clT t (at_ 0 (rowL 4 t i) ((q : Int)))⟩) (by omega) (by first | omega | (simp; omega)) (famT_at (by omega) (by omega))
        replace oP126 : CelR H112 P126 [(.int .i64 (szz (lvT t (at_ 0 (rowL 4 t i) ((q : Int)))))), (.int .i64 (szz (lvT t (at_ 0 (rowL 4 t i) ((q : Int)))))), y127] := oP126
        replace oy127 : Ro eI H112 y127 (clT t (at_ 0 (rowL 4 t i) ((q : Int)))) := oy127
        refine ob_i (hb128a) ?_
        refine gop_e (decide_eq_false hc121) ?_
        refine gop_rf ?_
        refine ob_i (oP126.fa 0) ?_
        refine gop_e (decide_eq_false hc121) ?_
        refine gop_rf ?_
        refine ob_i (oP126.ld 0 rfl) ?_
        refine gop_e (decide_eq_false hc121) ?_
        refine gop_rf ?_
        refine ob_i (vInt_gtr _ _ _) ?_
        refine ob_i (vPick_ef (decide_eq_false hc121) _ _) ?_
        refine cnd_d (fun hg129 => ?_) (fun hg129 => ?_)
        ·skip
         refine ob_i (a := (.agg #[(.int .i64 (0)), (.int .i64 (0)), (.slice none 0 0)])) (by rfl) ?_
         refine op2.stn (ws := [(.int .i64 (0)), (.int .i64 (0)), (.slice none 0 0)]) rfl rfl (oc1 rfl (oc1 rfl (oc1 rfl oc0))) (fun H130 op2 off131 => ?_)
         replace op3 := op3.off off131 ap2Xp3.symm
         replace hvt := hvt0.le (off131.le lE np2)
         replace hz78 := hz780.le (off131.le lE np2)
         replace lE := off131.le lE np2
         replace op2 : Cel H130 p2 [(.int .i64 (0)), (.int .i64 (0)), (.slice none 0 0)] := op2
         refine op3.st0 (by simp) rfl rfl (fun H132 op3 off133 => ?_)
         replace op2 := op2.off off133 ap2Xp3
         replace hvt := hvt0.le (off133.le lE np3)
         replace hz78 := hz780.le (off133.le lE np3)
         replace lE := off133.le lE np3
         replace op3 : Cel H132 p3 [(.bool false)] := op3
         refine qr77 _ _ ?_
         show ob (vLoadN 3 p2 H132) (fun w0 => ob (vLoad p3 H132) (fun w1 => K (.tuple #[w0, w1]) H132))
         refine ob_i (op2.ldn rfl) ?_
         refine ob_i (op3.ld0 rfl) ?_
         skip
         have hok : ¬ (tfP t) := by intro h; obtain ⟨k1, k2, k3⟩ := h.2.1 i (by omega) q (by omega); have er := row_ent (t := t) (i := i) (q := q) (by omega); rw [← er] at k1 k2 k3; rw [← row_ent0] at k2; first | (exfalso; omega) | (exact absurd (congrArg szz k2) hg129) | (have := szz_8 k3; exfalso; omega)
         exact keq (K := K) (by rw [show ((selI (tfP t) (szz (lvT t (topT t)))) : Int) = (0) from by first | exact selI_t hok | exact selI_f hok]; rw [decide_eq_false (show ¬ (tfP t) from by exact hok)]) (hk  (.slice none 0 0) _ (Own.cast (show [] = selL (tfP t) (clT t (topT t)) by exact (selL_f hok).symm) (Own.nil_of none)) (fun b hb => by simp [bk] at hb)  lE)
        ·skip
         refine ob_i (vInt_add (by omega) (by omega)) ?_
         exact nxt (4 - (q + 1)) (by omega) ⟨q + 1, rfl, by omega, g2L112, g3L112, g4L112, g5L112, g33L112, g34L112, (congrArg (Value.int .i64) (by first | omega | rfl | (simp; done))), op2, op3, opo, ops71, opn72, ov, opq, lE, (okK_snoc hq0 ⟨by rw [← row_ent (by omega)]; omega, by rw [← row_ent (by omega), ← row_ent0]; exact szz_inj (Decidable.not_not.mp hc121), by rw [← row_ent (by omega)]; exact szz_le8 hg129⟩)⟩
      ·skip
       refine gop_st ?_
       refine gop_st ?_
       refine gop_st ?_
       refine gop_st ?_
       refine gop_st ?_
       refine gop_st ?_
       refine gop_st ?_
       refine gop_st ?_
       refine gop_st ?_
       refine gop_st ?_
       refine gop_st ?_
       refine gop_st ?_
       refine gop_st ?_
       refine ob_i (vPick_t _ _) ?_
       refine gop_st ?_
       refine gop_st ?_
       refine gop_st ?_
       refine gop_st ?_
       refine gop_st ?_
       refine gop_st ?_
       refine ob_i (vPick_t _ _) ?_
       refine cnd_t1 ?_
       refine ob_i (a := (.agg #[(.int .i64 (0)), (.int .i64 (0)), (.slice none 0 0)])) (by rfl) ?_
       refine op2.stn (ws := [(.int .i64 (0)), (.int .i64 (0)), (.slice none 0 0)]) rfl rfl (oc1 rfl (oc1 rfl (oc1 rfl oc0))) (fun H134 op2 off135 => ?_)
       replace op3 := op3.off off135 ap2Xp3.symm
       replace hvt := hvt0.le (off135.le lE np2)
       replace hz78 := hz780.le (off135.le lE np2)
       replace lE := off135.le lE np2
       replace op2 : Cel H134 p2 [(.int .i64 (0)), (.int .i64 (0)), (.slice none 0 0)] := op2
       refine op3.st0 (by simp) rfl rfl (fun H136 op3 off137 => ?_)
       replace op2 := op2.off off137 ap2Xp3
       replace hvt := hvt0.le (off137.le lE np3)
       replace hz78 := hz780.le (off137.le lE np3)
       replace lE := off137.le lE np3
       replace op3 : Cel H136 p3 [(.bool false)] := op3
       refine qr77 _ _ ?_
       show ob (vLoadN 3 p2 H136) (fun w0 => ob (vLoad p3 H136) (fun w1 => K (.tuple #[w0, w1]) H136))
       refine ob_i (op2.ldn rfl) ?_
       refine ob_i (op3.ld0 rfl) ?_
       skip
       have hok : ¬ (tfP t) := by intro h; obtain ⟨k1, k2, k3⟩ := h.2.1 i (by omega) q (by omega); have er := row_ent (t := t) (i := i) (q := q) (by omega); rw [← er] at k1 k2 k3; rw [← row_ent0] at k2; first | (exfalso; omega) | (exact absurd (congrArg szz k2) hc114) | (have := szz_8 k3; exfalso; omega)
       exact keq (K := K) (by rw [show ((selI (tfP t) (szz (lvT t (topT t)))) : Int) = (0) from by first | exact selI_t hok | exact selI_f hok]; rw [decide_eq_false (show ¬ (tfP t) from by exact hok)]) (hk  (.slice none 0 0) _ (Own.cast (show [] = selL (tfP t) (clT t (topT t)) by exact (selL_f hok).symm) (Own.nil_of none)) (fun b hb => by simp [bk] at hb)  lE)
     ·skip
      have tq := hg113
      exact hJ84 _ _ ⟨g4L112, g5L112, op2, op3, opo, ops71, opn72, ov, opq, lE, (fun p hp => hq0 p (by omega))⟩
    ·obtain ⟨v, Sv, op2, op3, opo, ops71, opn72, ov, nv, ap2Xv, ap3Xv, apoXv, aps71Xv, apn72Xv, lE, hm0⟩ := hI77
     have fl := famT_len t (t.length / 4)
     exact hJ42 _ _ ⟨v, _, rfl, rfl, rfl, rfl, op2, op3, opo, ov, nv, ap2Xv, ap3Xv, apoXv, lE, hm0⟩
    ·refine ⟨by kernel_rfl, C.slices_ChunkZ1 (r := (t.length / 4)) (c := 4) hvt0 (by omega) (by omega) (by omega) (by omega) (fun t' A hA => ?_) h0 hst hk1 hs1⟩
     obtain ⟨A', b, o, rfl, hn, v, Sv, op2, op3, opo, ops71, opn72, ov, nv, ap2Xv, ap3Xv, apoXv, aps71Xv, apn72Xv, lE, hm0⟩ := hJ t' A hA
     exact ⟨ops71.le (Le.put _ hn), opn72.le (Le.put _ hn)⟩
end Go.Proofs.Ythmdmbbdjbhcoaa
/- What the small functions of structs come to: copies, sizes, what is alike. -/
namespace Go.Proofs.Ythmdmbbdjbhcoaa
open HL
set_option maxRecDepth 100000
end Go.Proofs.Ythmdmbbdjbhcoaa
/- From a contract over a whole heap to a call's end: what the statement asks. -/
namespace Go.Proofs.Ythmdmbbdjbhcoaa.HL
open Go.RowKit
/-- All of a world's blocks. -/
def whole (W : World) : Hp := fun b => W.heap[b]?
theorem whole_sub (W : World) : Sub (whole W) W := fun _ _ h => h

theorem calls_true {P : Program} {f : FuncId} {args : Array Value} {W : World} (h : HT P f args (whole W) (fun v H' => v = .bool true ∧ Le (whole W) H')) :
    Calls P f args W (fun e W' => e = .returned (.bool true) ∧ Below W.heap.size W W') := by
  refine (h W (whole_sub W)).mono ?_
  rintro e W' ⟨v, H', rfl, hs, fr, rfl, hle⟩
  refine ⟨rfl, fr.os, fr.tape, fr.output, fr.size, fun k hk => ?_⟩
  have h1 : whole W k = some W.heap[k] := by unfold whole; exact Array.getElem?_eq_getElem hk
  have h2 := hs k _ (hle k _ h1)
  rw [h2, Array.getElem?_eq_getElem hk]

/-- A row of numbers of the world, as the kit's rows tell it. -/
def IsRow (k : IntKind) (w : World) (a : Option Addr) (len cap : Nat) (zs : List Int) : Prop :=
  (a = none ∧ len = 0 ∧ cap = 0 ∧ zs = []) ∨
  ∃ x, a = some x ∧ len ≤ cap ∧ cap ≤ maxLen ∧ zs.length = cap ∧ (∀ i, i < zs.length → w.cell? (x.add i) = some (.int k (zs.getD i 0))) ∧ ∀ n ∈ zs, (Lit.int k n).wf = true

theorem sl_of_row {W : World} {a : Option Addr} {len cap : Nat} {zs : List Int} (h : IsRow .i64 W a len cap zs) : Sl eI (whole W) (.slice a len cap) (zs.take len) := by
  rcases h with ⟨rfl, rfl, rfl, rfl⟩ | ⟨x, rfl, h1, _, h3, h4, _⟩
  · exact Sl.nil 0 none
  · have hlen : (zs.take len).length = len := by simp; omega
    refine ⟨some x, cap, by rw [hlen], by omega, fun i hi => ⟨x, rfl, ?_⟩⟩
    have hi' : i < zs.length := by simp at hi; omega
    have := h4 i hi'
    rw [List.getElem_take]
    rw [List.getD_eq_getElem?_getD, List.getElem?_eq_getElem hi'] at this
    exact this
theorem row_max {W : World} {a : Option Addr} {len cap : Nat} {zs : List Int} (h : IsRow .i64 W a len cap zs) : (zs.take len).length ≤ 9223372036854775807 := by
  rcases h with ⟨rfl, rfl, rfl, rfl⟩ | ⟨x, rfl, h1, h2, h3, _, _⟩
  · simp
  · have : maxLen = 9223372036854775807 := by decide
    simp; omega
end Go.Proofs.Ythmdmbbdjbhcoaa.HL
