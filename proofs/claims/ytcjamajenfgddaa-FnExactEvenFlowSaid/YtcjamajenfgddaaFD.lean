/- Which flows are valid: the program's and the reference's test. -/
import Derived.Test.YtcjamajenfgddaaFH
namespace Go.Proofs.Ytcjamajenfgddaa
open HL
set_option maxRecDepth 100000
def sides (r c : Int) : Prop := (1 ≤ r ∧ r ≤ 16) ∧ (1 ≤ c ∧ c ≤ 16)
instance (r c : Int) : Decidable (sides r c) := by unfold sides; infer_instance
theorem sides_mul {r c : Int} (h : sides r c) : 1 ≤ r * c ∧ r * c ≤ 256 := by
  obtain ⟨⟨h1, h2⟩, h3, h4⟩ := h
  have a := Int.mul_le_mul h2 h4 (by omega) (by omega)
  have b := Int.mul_le_mul h1 h3 (by omega) (by omega)
  omega
theorem vInt_mulw (a b : Int) : vInt .mul (.int .i64 a) (.int .i64 b) = some (.int .i64 (IntKind.i64.wrap (a * b))) := by simp only [vInt, if_true]
def validFlow (r c : Int) (l : List Nat) (m : List Bool) : Prop := sides r c ∧ (l.length : Int) = 9 * (r * c) ∧ (m.length : Int) = r * c ∧ ∀ x ∈ l, finB x = true
instance (r c : Int) (l : List Nat) (m : List Bool) : Decidable (validFlow r c l m) := by unfold validFlow; infer_instance
theorem C.spec_l06Sides {r c : Int} {H : Hp} {K : Value → Hp → Prop} (hk : K (.bool (decide (sides r c))) H) : HT prg I.spec_l06Sides [.int .i64 r, .int .i64 c].toArray H K := by
  refine R.spec_l06Sides ?_
  unfold F.spec_l06Sides
  unfold sides at hk
  refine C.spec_l00In ?_
  by_cases h : 1 ≤ r ∧ r ≤ 16
  · simp only [h, and_self, true_and, EV] at hk ⊢
    exact C.spec_l00In hk
  · simp only [h, false_and, decide_false, EV] at hk ⊢; exact hk
theorem C.impl_areSides {r c : Int} {H : Hp} {K : Value → Hp → Prop} (hk : K (.bool (decide (sides r c))) H) : HT prg I.impl_areSides [.int .i64 r, .int .i64 c].toArray H K := by
  refine R.impl_areSides ?_
  unfold F.impl_areSides
  unfold sides at hk
  refine C.impl_within ?_
  by_cases h : 1 ≤ r ∧ r ≤ 16
  · simp only [h, and_self, true_and, EV] at hk ⊢
    exact C.impl_within hk
  · simp only [h, false_and, decide_false, EV] at hk ⊢; exact hk
theorem C.spec_l06Flow {p vp vw : Value} {r c : Int} {l : List Nat} {m : List Bool} {H : Hp} {K : Value → Hp → Prop} (hp : Cel H p [.int .i64 r, .int .i64 c, vp, vw]) (hc : Sl eF H vp l) (hw : Sl eB H vw m)
    (k1 : l.length ≤ 9223372036854775807) (hk : K (.bool (decide (validFlow r c l m))) H) : HT prg I.spec_l06Flow [p].toArray H K := by
  refine R.spec_l06Flow ?_
  unfold F.spec_l06Flow
  simp only [hp.nilC, hp.fa, hp.ld 0 rfl, hp.ld 1 rfl, ob_some]
  refine C.spec_l06Sides ⟨Le.refl _, ?_⟩
  by_cases c1 : sides r c
  · have hm := sides_mul c1
    have q := c1.1
    have e9 : 9 * r * c = 9 * (r * c) := Int.mul_assoc _ _ _
    simp only [decide_eq_true c1, hp.nilC, hp.fa, hp.ld 2 rfl, hp.ld 0 rfl, hp.ld 1 rfl, hc.len, vInt_mulw, wrap64 (show -9223372036854775808 ≤ 9 * r by omega) (show 9 * r < 9223372036854775808 by omega), e9, wrap64 (show -9223372036854775808 ≤ 9 * (r * c) by omega) (show 9 * (r * c) < 9223372036854775808 by omega), EV]
    by_cases c2 : (l.length : Int) = 9 * (r * c)
    · simp only [decide_eq_true c2, hp.nilC, hp.fa, hp.ld 2 rfl, EV]
      refine C.spec_l02Finite hc k1 ⟨Le.refl _, ?_⟩
      by_cases c3 : ∀ x ∈ l, finB x = true
      · simp only [decide_eq_true c3, hp.nilC, hp.fa, hp.ld 3 rfl, hp.ld 0 rfl, hp.ld 1 rfl, hw.len, vInt_mulw, wrap64 (show -9223372036854775808 ≤ r * c by omega) (show r * c < 9223372036854775808 by omega), EV]
        exact kQ (K := K) hk ⟨fun h => h.2.2.1, fun h => ⟨c1, c2, h, c3⟩⟩
      · simp only [decide_eq_false c3, EV]; exact kF (K := K) hk (fun h => c3 h.2.2.2)
    · simp only [decide_eq_false c2, EV]; exact kF (K := K) hk (fun h => c2 h.2.1)
  · simp only [decide_eq_false c1, EV]; exact kF (K := K) hk (fun h => c1 h.1)
theorem C.spec_ValidFlow {vp vw : Value} {r c : Int} {l : List Nat} {m : List Bool} {H : Hp} {K : Value → Hp → Prop} (hc : Sl eF H vp l) (hw : Sl eB H vw m)
    (k1 : l.length ≤ 9223372036854775807) (_ : m.length ≤ 9223372036854775807) (hk : ∀ H', Le H H' → K (.bool (decide (validFlow r c l m))) H') : HT prg I.spec_ValidFlow [.agg #[.int .i64 r, .int .i64 c, vp, vw]].toArray H K := by
  refine R.spec_ValidFlow ?_
  unfold F.spec_ValidFlow
  refine nw_i (fun p H1 op np le1 => ?_)
  exact C.spec_l06Flow op (hc.le le1) (hw.le le1) k1 (hk H1 le1)
theorem C.impl_ValidFlow {vp vw : Value} {r c : Int} {l : List Nat} {m : List Bool} {H : Hp} {K : Value → Hp → Prop} (hc : Sl eF H vp l) (hw : Sl eB H vw m)
    (k1 : l.length ≤ 9223372036854775807) (_ : m.length ≤ 9223372036854775807) (hk : ∀ H', Le H H' → K (.bool (decide (validFlow r c l m))) H') : HT prg I.impl_ValidFlow [.agg #[.int .i64 r, .int .i64 c, vp, vw]].toArray H K := by
  refine R.impl_ValidFlow ?_
  unfold F.impl_ValidFlow
  refine nw_i (fun p H1 hp np le1 => ?_)
  replace hk := hk H1 le1
  replace hc := hc.le le1
  replace hw := hw.le le1
  simp only [hp.fa, hp.ld 0 rfl, hp.ld 1 rfl, vInt_mulw, ob_some]
  refine C.impl_areSides ?_
  by_cases c1 : sides r c
  · have hm := sides_mul c1
    simp only [decide_eq_true c1, hp.fa, hp.ld 2 rfl, hc.len, vInt_mulw, wrap64 (show -9223372036854775808 ≤ r * c by omega) (show r * c < 9223372036854775808 by omega), wrap64 (show -9223372036854775808 ≤ 9 * (r * c) by omega) (show 9 * (r * c) < 9223372036854775808 by omega), EV]
    by_cases c2 : (l.length : Int) = 9 * (r * c)
    · simp only [decide_eq_true c2, hp.fa, hp.ld 3 rfl, hw.len, EV]
      by_cases c3 : (m.length : Int) = r * c
      · simp only [decide_eq_true c3, hp.fa, hp.ld 2 rfl, EV]
        refine C.impl_areFinite hc k1 ?_
        exact kQ (K := K) hk ⟨fun h => h.2.2.2, fun h => ⟨c1, c2, c3, h⟩⟩
      · simp only [decide_eq_false c3, EV]; exact kF (K := K) hk (fun h => c3 h.2.2.1)
    · simp only [decide_eq_false c2, EV]; exact kF (K := K) hk (fun h => c2 h.2.1)
  · simp only [decide_eq_false c1, EV]; exact kF (K := K) hk (fun h => c1 h.1)
end Go.Proofs.Ytcjamajenfgddaa
