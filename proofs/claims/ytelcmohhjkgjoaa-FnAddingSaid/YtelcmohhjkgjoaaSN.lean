/- Parts of slices; slices that are put together. -/
import Derived.Test.YtelcmohhjkgjoaaKB
import Derived.Test.YtelcmohhjkgjoaaSY
namespace Go.Proofs.Ytelcmohhjkgjoaa
open HL
set_option maxRecDepth 100000
namespace HL
theorem Sl.cut {α : Type} {enc : α → Value} {H : Hp} {v : Value} {l : List α} (h : Sl enc H v l) {lo hi : Int} (h0 : 0 ≤ lo) (h1 : lo ≤ hi) (h2 : hi ≤ l.length) :
    ∃ x, vSl3 1 v (some (.int .i64 lo)) (some (.int .i64 hi)) none = some x ∧ (hi = l.length → vSl3 1 v (some (.int .i64 lo)) none none = some x) ∧ (lo = 0 → vSl3 1 v none (some (.int .i64 hi)) none = some x) ∧ (lo = 0 → hi = l.length → vSl3 1 v none none none = some x) ∧
      Sl enc H x ((l.drop lo.toNat).take (hi.toNat - lo.toNat)) ∧ (∀ b, bk x = some b → bk v = some b) := by
  obtain ⟨a, c, rfl, hc, hr⟩ := h
  have e1 : bnd (some (.int .i64 hi)) c l.length = some hi.toNat := by simp only [bnd]; rw [if_pos ⟨by omega, by omega⟩]
  have e2 : bnd (some (.int .i64 lo)) hi.toNat 0 = some lo.toNat := by simp only [bnd]; rw [if_pos ⟨by omega, by omega⟩]
  have e3 : bnd none c l.length = some l.length := rfl
  refine ⟨.slice (if c = lo.toNat then a else a.map (·.add (lo.toNat * 1))) (hi.toNat - lo.toNat) (c - lo.toNat), ?_, ?_, ?_, ?_, ?_, ?_⟩
  · simp only [vSl3, vSl, e1, e2]
  · intro e
    subst e
    have e2' : bnd (some (.int .i64 lo)) l.length 0 = some lo.toNat := by simpa using e2
    simp only [vSl3, vSl, e3, e2', Int.toNat_natCast]
  · intro e
    subst e
    simp only [vSl3, vSl, e1]; rfl
  · intro e e'
    subst e e'
    simp only [vSl3, vSl, e3, Int.toNat_natCast]; rfl
  · have hl : ((l.drop lo.toNat).take (hi.toNat - lo.toNat)).length = hi.toNat - lo.toNat := by simp; omega
    refine ⟨_, _, by rw [hl], by rw [hl]; omega, fun i hi' => ?_⟩
    rw [hl] at hi'
    obtain ⟨ad, rfl, hh⟩ := hr (lo.toNat + i) (by omega)
    rw [if_neg (by omega)]
    refine ⟨ad.add (lo.toNat * 1), rfl, ?_⟩
    have e4 : (ad.add (lo.toNat * 1)).add i = ad.add (lo.toNat + i) := by
      rw [Nat.mul_one]
      unfold Addr.add
      by_cases hx : lo.toNat = 0
      · rw [if_pos hx, hx, Nat.zero_add]
      · by_cases hy : i = 0
        · subst hy; simp
        · rw [if_neg hx, if_neg hy, if_neg (by omega)]; simp [Nat.add_assoc]
    rw [e4, hh]
    simp
  · intro b hb
    by_cases hcl : c = lo.toNat
    · rw [if_pos hcl] at hb
      cases a with
      | none => simp [bk] at hb
      | some ad => simp only [bk] at hb; rw [if_pos (by omega)] at hb; simp at hb
    · rw [if_neg hcl] at hb
      cases a with
      | none => simp [bk] at hb
      | some ad =>
        have hbl : ∀ k, (ad.add k).block = ad.block := fun k => by unfold Addr.add; split <;> rfl
        simp only [Option.map_some, bk] at hb ⊢
        split at hb
        · simp at hb
        · rw [if_neg (by omega)]; rw [hbl] at hb; exact hb
end HL
theorem C.Grow_nil {n : Int} {H : Hp} {K : Value → Hp → Prop} (h0 : 0 ≤ n) (h1 : n ≤ 1099511627776) (hk : ∀ v H', Own eI H' v ([] : List Int) → Nw H v → Le H H' → K v H') :
    HT prg I.slices_Grow_int64Zint64 [.slice none 0 0, .int .i64 n].toArray H K := by
  refine R.slices_Grow_int64Zint64 ?_
  unfold F.slices_Grow_int64Zint64
  refine jn_i (fun σ' H' => σ' 0 = .slice none 0 0 ∧ σ' 1 = .int .i64 n ∧ H' = H) (fun σ1 H1 hP => ?_) (fun J1 hJ1 => ?_)
  · obtain ⟨g0, g1, rfl⟩ := hP
    simp only [g0, g1]
    refine ob_i (a := .int .i64 0) rfl ?_
    refine ob_i (a := .int .i64 0) rfl ?_
    refine ob_i (a := .int .i64 0) (by kernel_rfl) ?_
    refine ob_i (vInt_sub (by omega) (by omega)) ?_
    refine ob_i (vInt_gtr _ _ _) ?_
    refine cnd_d (fun hg => ?_) (fun hg => ?_)
    · refine ob_i (a := .int .i64 0) rfl ?_
      refine ob_i (a := .slice none 0 0) (by kernel_rfl) ?_
      refine ⟨by omega, by omega, by omega, ?_⟩
      rw [if_neg (by omega)]
      refine ⟨by omega, ?_, ?_⟩
      · have := nsc_le (n := 0 + (n - 0).toNat) (c := 0) (by omega)
        omega
      intro c' hc1 hc2 r hr
      refine ob_i (a := .int .i64 0) rfl ?_
      refine ob_i (a := .slice (some ⟨r, 0, none⟩) 0 c') (by simp [vSl3, vSl, bnd, add_none]) ?_
      refine hk _ _ ⟨some ⟨r, 0, none⟩, c', rfl, by simp, fun _ => ⟨r, 0, _, _, rfl, Hp.put_same _ _ _, ?_, fun i hi => absurd hi (by simp)⟩⟩ ?_ (Le.put _ hr)
      · rw [if_neg (by omega)]
        simp [Builtin.zeroCells]; omega
      · intro b hb
        simp only [bk] at hb
        split at hb
        · simp at hb
        · simp only [Option.some.injEq] at hb; subst hb; exact hr
    · exact hk _ _ (Own.nil_of none) (fun b hb => by simp [bk] at hb) (Le.refl _)
  · refine ob_i (vInt_lss _ _ _) ?_
    refine cnd_d (fun hg => by omega) (fun hg => ?_)
    exact hJ1 _ _ ⟨rfl, rfl, rfl⟩
theorem C.Concat2 {v a b : Value} {l m : List Int} {H : Hp} {K : Value → Hp → Prop} (hv : Sl id H v [a, b]) (ha : Sl eI H a l) (hb : Sl eI H b m) (hl : l.length ≤ 1073741824) (hm : m.length ≤ 1073741824)
    (hk : ∀ u H', Own eI H' u (l ++ m) → Nw H u → Le H H' → K u H') : HT prg I.slices_Concat_int64Zint64 [v].toArray H K := by
  refine R.slices_Concat_int64Zint64 ?_
  unfold F.slices_Concat_int64Zint64
  refine jn_i (fun σ' H' => σ' 0 = v ∧ σ' 3 = .int .i64 (l.length + m.length : Int) ∧ Le H H') (fun σ1 H1 hP => ?_) (fun J1 hJ1 => ?_)
  · obtain ⟨g0, g3, le1⟩ := hP
    simp only [g0, g3]
    refine C.Grow_nil (by omega) (by omega) (fun u0 H2 ou0 nu0 le2 => ?_)
    have le12 := le1.trans le2
    refine jn_i (fun σ' H' => ∃ u, σ' 6 = u ∧ Own eI H' u (l ++ m) ∧ Nw H u ∧ Le H H') (fun σ3 H3 hP => ?_) (fun J3 hJ3 => ?_)
    · obtain ⟨u, g6, ou, nu, le3⟩ := hP
      rw [g6]; exact hk u H3 ou nu le3
    refine ob_i (hv.le le12).len ?_
    refine ⟨fun n σ H' => ∃ i : Nat, n = 2 - i ∧ i ≤ 2 ∧ σ 25 = v ∧ σ 26 = .int .i64 2 ∧ σ 27 = .int .i64 (i : Nat) ∧ ∃ u, σ 6 = u ∧ Own eI H' u (if i = 0 then [] else if i = 1 then l else l ++ m) ∧ Nw H u ∧ Le H H',
      ⟨_, 0, rfl, by omega, rfl, rfl, rfl, u0, rfl, ou0, nu0.le le1, le12⟩, ?_⟩
    rintro n σ H4 ⟨i, rfl, hi, g25, g26, g27, u, g6, ou, nu, le4⟩
    simp only [g25, g26, g27, g6]
    refine ob_i (vInt_lss _ _ _) ?_
    refine cnd_d (fun hlt => ?_) (fun hge => ?_)
    · refine ob_i ((hv.le le4).ix (by omega) (by simpa using hlt)) ?_
      refine ob_i ((hv.le le4).ld undef (by omega) (by simpa using hlt)) ?_
      have hcase : i = 0 ∨ i = 1 := by omega
      rcases hcase with rfl | rfl
      · refine apd_any (m := l) ou (ha.le le4) (fun _ => rfl) (by omega) (by simp; omega) (fun u' H5 ou' off hb' => ?_)
        refine ob_i (vInt_add (by omega) (by omega)) ?_
        exact nxt (2 - (0 + 1)) (by omega) ⟨0 + 1, rfl, by omega, g25, g26, rfl, u', rfl, by simpa using ou', Nw.ap2 nu le4 hb', off.le le4 nu⟩
      · refine apd_any (m := m) ou (hb.le le4) (fun _ => rfl) (by omega) (by simp; omega) (fun u' H5 ou' off hb' => ?_)
        refine ob_i (vInt_add (by omega) (by omega)) ?_
        exact nxt (2 - (1 + 1)) (by omega) ⟨1 + 1, rfl, by omega, g25, g26, rfl, u', rfl, by simpa using ou', Nw.ap2 nu le4 hb', off.le le4 nu⟩
    · obtain rfl : i = 2 := by omega
      exact hJ3 _ _ ⟨u, g6, by simpa using ou, nu, le4⟩
  refine ob_i hv.len ?_
  refine ⟨fun n σ H' => ∃ i : Nat, n = 2 - i ∧ i ≤ 2 ∧ σ 0 = v ∧ σ 9 = v ∧ σ 10 = .int .i64 2 ∧ σ 11 = .int .i64 (i : Nat) ∧ σ 3 = .int .i64 (if i = 0 then (0 : Int) else if i = 1 then (l.length : Int) else (l.length + m.length : Int)) ∧ H' = H,
    ⟨_, 0, rfl, by omega, rfl, rfl, rfl, rfl, rfl, rfl⟩, ?_⟩
  rintro n σ H4 ⟨i, rfl, hi, g0, g9, g10, g11, g3, rfl⟩
  simp only [g9, g10, g11, g3]
  refine ob_i (vInt_lss _ _ _) ?_
  refine cnd_d (fun hlt => ?_) (fun hge => ?_)
  · refine ob_i (hv.ix (by omega) (by simpa using hlt)) ?_
    refine ob_i (hv.ld undef (by omega) (by simpa using hlt)) ?_
    have hcase : i = 0 ∨ i = 1 := by omega
    rcases hcase with rfl | rfl
    · refine ob_i ha.len ?_
      refine ob_i (a := .int .i64 (l.length : Int)) (by rw [if_pos rfl, vInt_add (by omega) (by omega), Int.zero_add]) ?_
      refine ob_i (vInt_lss _ _ _) ?_
      refine cnd_d (fun hg => by omega) (fun hg => ?_)
      refine ob_i (vInt_add (by omega) (by omega)) ?_
      exact nxt (2 - (0 + 1)) (by omega) ⟨0 + 1, rfl, by omega, g0, g9, g10, rfl, rfl, rfl⟩
    · refine ob_i hb.len ?_
      refine ob_i (a := .int .i64 (l.length + m.length : Int)) (by rw [if_neg (by omega), if_pos rfl, vInt_add (by omega) (by omega)]) ?_
      refine ob_i (vInt_lss _ _ _) ?_
      refine cnd_d (fun hg => by omega) (fun hg => ?_)
      refine ob_i (vInt_add (by omega) (by omega)) ?_
      exact nxt (2 - (1 + 1)) (by omega) ⟨1 + 1, rfl, by omega, g0, g9, g10, rfl, rfl, rfl⟩
  · obtain rfl : i = 2 := by omega
    exact hJ1 _ _ ⟨g0, g3, Le.refl _⟩
end Go.Proofs.Ytelcmohhjkgjoaa
