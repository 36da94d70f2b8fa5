/- Which gases are valid: the program's and the reference's test. -/
import Derived.Test.YtdfoobomlabffaaSI
namespace Go.Proofs.Ytdfoobomlabffaa
open HL
set_option maxRecDepth 100000
def sides (r c : Int) : Prop := (1 ≤ r ∧ r ≤ 16) ∧ (1 ≤ c ∧ c ≤ 16)
instance (r c : Int) : Decidable (sides r c) := by unfold sides; infer_instance
theorem sides_mul {r c : Int} (h : sides r c) : 1 ≤ r * c ∧ r * c ≤ 256 := by
  obtain ⟨⟨h1, h2⟩, h3, h4⟩ := h
  have a := Int.mul_le_mul h2 h4 (by omega) (by omega)
  have b := Int.mul_le_mul h1 h3 (by omega) (by omega)
  omega
/-- A valid gas. -/
def validGas (w r c : Int) (l : List Int) (m : List Bool) : Prop := (w = 4 ∨ w = 6) ∧ sides r c ∧ (l.length : Int) = r * c ∧ m.length = l.length ∧ ∀ x ∈ l, 0 ≤ x ∧ x ≤ (if w = 4 then 15 else 63)
instance (w r c : Int) (l : List Int) (m : List Bool) : Decidable (validGas w r c l m) := by unfold validGas; infer_instance
theorem gasBound {w r c : Int} {l : List Int} {m : List Bool} (h : w = 4 ∨ w = 6) : ∃ X : Int, vCI .u64 (.int .i64 w) = some (.int .u64 w) ∧ vInt .shl (.int .i64 1) (.int .u64 w) = some (.int .i64 (X + 1)) ∧
    vInt .sub (.int .i64 (X + 1)) (.int .i64 1) = some (.int .i64 X) ∧ (validGas w r c l m ↔ sides r c ∧ (l.length : Int) = r * c ∧ m.length = l.length ∧ ∀ x ∈ l, 0 ≤ x ∧ x ≤ X) := by
  rcases h with rfl | rfl
  · refine ⟨15, rfl, rfl, rfl, ?_⟩
    unfold validGas
    simp
  · refine ⟨63, rfl, rfl, rfl, ?_⟩
    unfold validGas
    simp
theorem vInt_mulw (a b : Int) : vInt .mul (.int .i64 a) (.int .i64 b) = some (.int .i64 (IntKind.i64.wrap (a * b))) := by simp only [vInt, if_true]
--@ C.spec_l06Sides needs spec_l06Sides C.spec_l00In
theorem C.spec_l06Sides {r c : Int} {H : Hp} {K : Value → Hp → Prop} (hk : K (.bool (decide (sides r c))) H) : HT prg I.spec_l06Sides [.int .i64 r, .int .i64 c].toArray H K := by
  refine R.spec_l06Sides ?_
  unfold F.spec_l06Sides
  unfold sides at hk
  refine C.spec_l00In ?_
  by_cases h : 1 ≤ r ∧ r ≤ 16
  · simp only [h, and_self, true_and, EV] at hk ⊢
    exact C.spec_l00In hk
  · simp only [h, false_and, decide_false, EV] at hk ⊢; exact hk
--@ C.impl_areSides needs impl_areSides C.impl_within
theorem C.impl_areSides {r c : Int} {H : Hp} {K : Value → Hp → Prop} (hk : K (.bool (decide (sides r c))) H) : HT prg I.impl_areSides [.int .i64 r, .int .i64 c].toArray H K := by
  refine R.impl_areSides ?_
  unfold F.impl_areSides
  unfold sides at hk
  refine C.impl_within ?_
  by_cases h : 1 ≤ r ∧ r ≤ 16
  · simp only [h, and_self, true_and, EV] at hk ⊢
    exact C.impl_within hk
  · simp only [h, false_and, decide_false, EV] at hk ⊢; exact hk
--@ C.spec_l06Is needs spec_l06Is C.spec_l06Sides C.spec_l00In
theorem C.spec_l06Is {p vc vw : Value} {w r c : Int} {l : List Int} {m : List Bool} {H : Hp} {K : Value → Hp → Prop} (hp : Cel H p [.int .i64 w, .int .i64 r, .int .i64 c, vc, vw]) (hc : Sl eI H vc l) (hw : Sl eB H vw m)
    (k1 : l.length ≤ 9223372036854775807) (hk : K (.bool (decide (validGas w r c l m))) H) : HT prg I.spec_l06Is [p].toArray H K := by
  refine R.spec_l06Is ?_
  unfold F.spec_l06Is
  simp only [hp.nilC, hp.fa, hp.ld 0 rfl, EV]
  by_cases c1 : w = 4 ∨ w = 6
  · obtain ⟨X, s1, s2, s3, hv⟩ := gasBound (r := r) (c := c) (l := l) (m := m) c1
    replace hk := kQ hk hv
    have q7 : decide ((6 : Int) ≠ 4) = true := rfl
    rcases c1 with rfl | rfl
    all_goals
      simp only [q7, hp.nilC, hp.fa, hp.ld 0 rfl, hp.ld 1 rfl, hp.ld 2 rfl, EV]
      refine C.spec_l06Sides ⟨Le.refl _, ?_⟩
      by_cases c2 : sides r c
      · have hm := sides_mul c2
        simp only [c2, decide_true, hp.nilC, hp.fa, hp.ld 3 rfl, hp.ld 1 rfl, hp.ld 2 rfl, hc.len, vInt_mulw, wrap64 (show -9223372036854775808 ≤ r * c by omega) (show r * c < 9223372036854775808 by omega), EV]
        by_cases c3 : (l.length : Int) = r * c
        · have f3 : decide ((l.length : Int) ≠ r * c) = false := decide_eq_false (fun h => h c3)
          simp only [f3, hp.nilC, hp.fa, hp.ld 4 rfl, hp.ld 3 rfl, hc.len, hw.len, EV]
          by_cases c4 : (m.length : Int) = l.length
          · have f4 : decide ((m.length : Int) ≠ l.length) = false := decide_eq_false (fun h => h c4)
            simp only [f4, EV]
            unfold jn; dsimp only
            refine ⟨fun n σ H1 => ∃ i : Nat, n = l.length - i ∧ i ≤ l.length ∧ H1 = H ∧ σ 0 = p ∧ σ 3 = .int .i64 i ∧ ∀ x ∈ l.take i, 0 ≤ x ∧ x ≤ X, ⟨_, 0, rfl, by omega, rfl, rfl, rfl, by simp⟩, ?_⟩
            rintro n σ H1 ⟨i, rfl, hi', rfl, h0, h3, hall⟩
            simp only [h0, h3, hp.nilC, hp.fa, hp.ld 3 rfl, hc.len, vInt_lss, ob_some]
            refine cnd_d (fun hlt => ?_) (fun hge => ?_)
            · have hlt' : i < l.length := by omega
              rw [hc.ix (by omega) hlt, ob_some, hc.ld 0 (by omega) hlt, ob_some]
              simp only [hp.ld 0 rfl, s1, s2, s3, ob_some]
              refine C.spec_l00In ⟨Le.refl _, ?_⟩
              rw [vUn_not, ob_some]
              refine cnd_i (fun hb => ?_) (fun hb => ?_)
              · refine retK (K := K) (v' := .bool false) rfl (kF (K := K) hk ?_)
                intro hh
                have := hh.2.2.2 _ (at_mem 0 l (i := i) (by omega) hlt)
                simp [this] at hb
              · rw [vInt_add (by omega) (by omega), ob_some]
                refine nxt (l.length - (i + 1)) (by omega) ⟨i + 1, rfl, by omega, rfl, h0, rfl, ?_⟩
                rw [take_at 0 l hlt']
                intro x hx
                rcases List.mem_append.mp hx with hx | hx
                · exact hall x hx
                · simp only [List.mem_singleton] at hx; subst hx; simpa using hb
            · rw [List.take_of_length_le (by omega)] at hall
              exact retK (K := K) (v' := .bool true) rfl (kT (K := K) hk ⟨c2, c3, by omega, hall⟩)
          · have f4 : decide ((m.length : Int) ≠ l.length) = true := decide_eq_true c4
            simp only [f4, EV]; exact kF (K := K) hk (fun h => c4 (by have := h.2.2.1; omega))
        · have f3 : decide ((l.length : Int) ≠ r * c) = true := decide_eq_true c3
          simp only [f3, EV]; exact kF (K := K) hk (fun h => c3 h.2.1)
      · simp only [c2, decide_false, EV]; exact kF (K := K) hk (fun h => c2 h.1)
  · have n1 : ¬ w = 4 := fun h => c1 (.inl h)
    have n2 : ¬ w = 6 := fun h => c1 (.inr h)
    simp only [n1, n2, ne_eq, not_false_eq_true, decide_true, hp.nilC, hp.fa, hp.ld 0 rfl, EV]
    exact kF (K := K) hk (fun h => c1 h.1)
--@ C.spec_ValidGas needs spec_ValidGas C.spec_l06Is
theorem C.spec_ValidGas {vc vw : Value} {w r c : Int} {l : List Int} {m : List Bool} {H : Hp} {K : Value → Hp → Prop} (hc : Sl eI H vc l) (hw : Sl eB H vw m)
    (k1 : l.length ≤ 9223372036854775807) (_ : m.length ≤ 9223372036854775807) (hk : ∀ H', Le H H' → K (.bool (decide (validGas w r c l m))) H') : HT prg I.spec_ValidGas [.agg #[.int .i64 w, .int .i64 r, .int .i64 c, vc, vw]].toArray H K := by
  refine R.spec_ValidGas ?_
  unfold F.spec_ValidGas
  refine nw_i (fun p H1 op np le1 => ?_)
  exact C.spec_l06Is op (hc.le le1) (hw.le le1) k1 (hk H1 le1)
--@ C.impl_ValidGas needs impl_ValidGas C.impl_areSides C.impl_areMany
theorem C.impl_ValidGas {vc vw : Value} {w r c : Int} {l : List Int} {m : List Bool} {H : Hp} {K : Value → Hp → Prop} (hc : Sl eI H vc l) (hw : Sl eB H vw m)
    (k1 : l.length ≤ 9223372036854775807) (_ : m.length ≤ 9223372036854775807) (hk : ∀ H', Le H H' → K (.bool (decide (validGas w r c l m))) H') : HT prg I.impl_ValidGas [.agg #[.int .i64 w, .int .i64 r, .int .i64 c, vc, vw]].toArray H K := by
  refine R.impl_ValidGas ?_
  unfold F.impl_ValidGas
  refine nw_i (fun p H1 hp np le1 => ?_)
  replace hk := hk H1 le1
  replace hc := hc.le le1
  replace hw := hw.le le1
  simp only [hp.fa, hp.ld 0 rfl, hp.ld 1 rfl, hp.ld 2 rfl, vInt_mulw, EV]
  by_cases c1 : w = 4 ∨ w = 6
  · obtain ⟨X, s1, s2, s3, hv⟩ := gasBound (r := r) (c := c) (l := l) (m := m) c1
    replace hk := kQ hk hv
    have q7 : decide ((6 : Int) = 4) = false := rfl
    have q8 : vInt .shl (.int .i64 1) (.int .i64 w) = vInt .shl (.int .i64 1) (.int .u64 w) := rfl
    rcases c1 with rfl | rfl
    all_goals
      simp only [q7, hp.fa, hp.ld 0 rfl, hp.ld 1 rfl, hp.ld 2 rfl, EV]
      refine C.impl_areSides ⟨Le.refl _, ?_⟩
      by_cases c2 : sides r c
      · have hm := sides_mul c2
        simp only [c2, decide_true, hp.fa, hp.ld 3 rfl, hp.ld 0 rfl, q8, s2, s3, wrap64 (show -9223372036854775808 ≤ r * c by omega) (show r * c < 9223372036854775808 by omega), EV]
        refine C.impl_areMany hc k1 ⟨Le.refl _, ?_⟩
        by_cases c3 : (r * c ≤ l.length ∧ (l.length : Int) ≤ r * c) ∧ ∀ x ∈ l, 0 ≤ x ∧ x ≤ X
        · simp only [decide_eq_true c3, hp.fa, hp.ld 4 rfl, hw.len, EV]
          exact kQ (K := K) hk ⟨fun h => by have := h.2.1; have := h.2.2.1; omega, fun h => ⟨c2, by omega, by omega, c3.2⟩⟩
        · simp only [decide_eq_false c3, EV]
          exact kF (K := K) hk (fun h => c3 ⟨by have := h.2.1; omega, h.2.2.2⟩)
      · simp only [c2, decide_false, EV]; exact kF (K := K) hk (fun h => c2 h.1)
  · have n1 : ¬ w = 4 := fun h => c1 (.inl h)
    have n2 : ¬ w = 6 := fun h => c1 (.inr h)
    simp only [n1, n2, decide_false, hp.fa, hp.ld 0 rfl, EV]
    exact kF (K := K) hk (fun h => c1 h.1)
end Go.Proofs.Ytdfoobomlabffaa
