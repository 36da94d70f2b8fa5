/- Lanes: cars are kept, and never meet. -/
import Derived.Test.YtdfoobomlabffaaLN
namespace Go.Proofs.Ytdfoobomlabffaa
open HL
set_option maxRecDepth 100000
/-- How many of the first numbers are not less than 0. -/
def cN (f : Nat → Int) : Nat → Int
  | 0 => 0
  | k + 1 => cN f k + if 0 ≤ f k then 1 else 0
def carsN (l : List Int) : Int := cN (fun i => at_ 0 l (i : Int)) l.length
theorem cN_bnd (f : Nat → Int) : ∀ k, 0 ≤ cN f k ∧ cN f k ≤ k
  | 0 => by simp [cN]
  | k + 1 => by
    have := cN_bnd f k
    unfold cN
    split <;> omega
theorem cN_congr {f g : Nat → Int} : ∀ {k : Nat}, (∀ i, i < k → f i = g i) → cN f k = cN g k
  | 0, _ => rfl
  | k + 1, h => by
    unfold cN
    rw [cN_congr (fun i hi => h i (by omega)), h k (by omega)]
theorem cN_set {f g : Nat → Int} {j : Nat} : ∀ {k : Nat}, j < k → (∀ i, i < k → i ≠ j → g i = f i) → f j < 0 → 0 ≤ g j → cN g k = cN f k + 1
  | 0, hj, _, _, _ => by omega
  | k + 1, hj, h, hf, hg => by
    unfold cN
    by_cases e : j = k
    · subst e
      rw [cN_congr (f := g) (g := f) (fun i hi => h i (by omega) (by omega)), if_pos hg, if_neg (by omega)]; omega
    · rw [cN_set (k := k) (by omega) (fun i hi hn => h i (by omega) hn) hf hg, h k (by omega) (Ne.symm e)]; omega
theorem cN_neg {f : Nat → Int} : ∀ {k : Nat}, (∀ i, i < k → f i < 0) → cN f k = 0
  | 0, _ => rfl
  | k + 1, h => by
    unfold cN
    rw [cN_neg (fun i hi => h i (by omega)), if_neg (by have := h k (by omega); omega)]; rfl
theorem cN_add {f g f' g' : Nat → Int} : ∀ {k : Nat}, (∀ i, i < k → (f' i = f i ∧ g' i = g i) ∨ (f' i = g i ∧ g' i = f i)) → cN f' k + cN g' k = cN f k + cN g k
  | 0, _ => rfl
  | k + 1, h => by
    unfold cN
    have ih := cN_add (k := k) (fun i hi => h i (by omega))
    rcases h k (by omega) with ⟨h1, h2⟩ | ⟨h1, h2⟩ <;> rw [h1, h2] <;> omega
theorem at_setN {l : List Int} {i j : Nat} {x : Int} (hi : i < l.length) : at_ 0 (l.set i x) (j : Int) = if i = j then x else at_ 0 l (j : Int) := by
  unfold at_
  rw [List.getD_eq_getElem?_getD, List.getD_eq_getElem?_getD, Int.toNat_natCast, List.getElem?_set]
  by_cases e : i = j
  · subst e; rw [if_pos rfl, if_pos hi, if_pos rfl]; rfl
  · rw [if_neg e, if_neg e]
section
variable {l : List Int} {most : Int} {sh : Nat} {x : Int}
/-- The speed of a car of its time. -/
def vI (l : List Int) (most : Int) (sh : Nat) (x : Int) (i : Nat) : Int := lnV l most sh i (nxS (lnS l most sh x i).2)
def pI (l : List Int) (most : Int) (sh : Nat) (x : Int) (i : Nat) : Int := ((i : Int) + vI l most sh x i) % (l.length : Int)
theorem vI_bnd {i : Nat} (h1 : i < l.length) (hc : 0 ≤ at_ 0 l (i : Int)) (hm : 1 ≤ most) : 0 ≤ vI l most sh x i ∧ vI l most sh x i ≤ most ∧ vI l most sh x i ≤ frG l i ∧ (frG l i : Int) ≤ l.length - 1 := by
  have := lnV_bnd (l := l) (most := most) (sh := sh) (i := (i : Int)) (s := nxS (lnS l most sh x i).2) (by omega) (by omega) hc hm
  have h2 := (frG_spec (l := l) (i := (i : Int)) (by omega) (by omega) hc).1
  unfold vI
  omega
theorem fr_before {i j : Nat} (hij : i < j) (hj : j < l.length) (hi : 0 ≤ at_ 0 l (i : Int)) (hc : 0 ≤ at_ 0 l (j : Int)) : (frG l i : Int) ≤ j - i - 1 ∧ (frG l j : Int) ≤ l.length - (j - i) - 1 := by
  have a := (frG_spec (l := l) (i := (i : Int)) (by omega) (by omega) hi).2.2 (j - i - 1)
  have b := (frG_spec (l := l) (i := (j : Int)) (by omega) (by omega) hc).2.2 (l.length - (j - i) - 1)
  have e1 : lnAt l i (j - i - 1) = at_ 0 l (j : Int) := by
    unfold lnAt
    rw [show (i : Int) + 1 + ((j - i - 1 : Nat) : Int) = (j : Int) by omega, Int.emod_eq_of_lt (by omega) (by omega)]
  have e2 : lnAt l j (l.length - (j - i) - 1) = at_ 0 l (i : Int) := by
    unfold lnAt
    rw [show (j : Int) + 1 + ((l.length - (j - i) - 1 : Nat) : Int) = (i : Int) + (l.length : Int) by omega, Int.add_emod_right, Int.emod_eq_of_lt (by omega) (by omega)]
  rw [e1] at a
  rw [e2] at b
  constructor <;> (apply Int.not_lt.mp; intro h) <;> first | (have := a (by omega); omega) | (have := b (by omega); omega)
theorem pI_lt {i j : Nat} (hij : i < j) (hj : j < l.length) (hi : 0 ≤ at_ 0 l (i : Int)) (hc : 0 ≤ at_ 0 l (j : Int)) (hm : 1 ≤ most) : pI l most sh x i ≠ pI l most sh x j := by
  have a := vI_bnd (sh := sh) (x := x) (show i < l.length by omega) hi hm
  have b := vI_bnd (sh := sh) (x := x) hj hc hm
  have c := fr_before hij hj hi hc
  unfold pI
  intro h
  have e := Int.emod_emod_of_dvd
  have h2 : ((j : Int) + vI l most sh x j - ((i : Int) + vI l most sh x i)) % (l.length : Int) = 0 := Int.emod_eq_emod_iff_emod_sub_eq_zero.mp h.symm
  rw [Int.emod_eq_of_lt (by omega) (by omega)] at h2
  omega
theorem pI_inj {i j : Nat} (hi1 : i < l.length) (hj : j < l.length) (hi : 0 ≤ at_ 0 l (i : Int)) (hc : 0 ≤ at_ 0 l (j : Int)) (hm : 1 ≤ most) (h : pI l most sh x i = pI l most sh x j) : i = j := by
  rcases Nat.lt_trichotomy i j with h1 | h1 | h1
  · exact absurd h (pI_lt h1 hj hi hc hm)
  · exact h1
  · exact absurd h.symm (pI_lt h1 hi1 hc hi hm)
theorem pI_rng {i : Nat} (hn : 0 < l.length) : 0 ≤ pI l most sh x i ∧ pI l most sh x i < l.length := ⟨Int.emod_nonneg _ (by omega), Int.emod_lt_of_pos _ (by omega)⟩
/-- What lies at each place behind some cells. -/
theorem lnS_at (hn : 0 < l.length) (hm : 1 ≤ most) : ∀ {k : Nat}, k ≤ l.length → ∀ j : Nat, j < l.length →
    (∃ i, i < k ∧ 0 ≤ at_ 0 l (i : Int) ∧ pI l most sh x i = j ∧ at_ 0 (lnS l most sh x k).1 (j : Int) = vI l most sh x i) ∨ ((∀ i, i < k → 0 ≤ at_ 0 l (i : Int) → pI l most sh x i ≠ j) ∧ at_ 0 (lnS l most sh x k).1 (j : Int) = -1)
  | 0, _, j, hj => .inr ⟨fun i hi => by omega, by
    unfold lnS at_
    rw [List.getD_eq_getElem?_getD, Int.toNat_natCast]
    simp [hj]⟩
  | k + 1, hk, j, hj => by
    have ih := lnS_at hn hm (k := k) (by omega) j hj
    by_cases h : at_ 0 l (k : Int) < 0
    · rw [lnS_skip h]
      rcases ih with ⟨i, h1, h2, h3, h4⟩ | ⟨h1, h2⟩
      · exact .inl ⟨i, by omega, h2, h3, h4⟩
      · refine .inr ⟨fun i hi hc => ?_, h2⟩
        by_cases e : i = k
        · subst e; omega
        · exact h1 i (by omega) hc
    · have r := pI_rng (l := l) (most := most) (sh := sh) (x := x) (i := k) hn
      rw [lnS_car (l := l) (most := most) (sh := sh) (x := x) h rfl rfl]
      have hset := at_setN (l := (lnS l most sh x k).1) (i := (pI l most sh x k).toNat) (j := j) (x := vI l most sh x k) (by rw [lnS_len]; omega)
      change _ ∨ _ ∧ at_ 0 ((lnS l most sh x k).1.set (pI l most sh x k).toNat (vI l most sh x k)) (j : Int) = -1
      by_cases e : (pI l most sh x k).toNat = j
      · rw [if_pos e] at hset
        exact .inl ⟨k, by omega, by omega, by omega, hset⟩
      · rw [if_neg e] at hset
        rcases ih with ⟨i, h1, h2, h3, h4⟩ | ⟨h1, h2⟩
        · exact .inl ⟨i, by omega, h2, h3, hset.trans h4⟩
        · refine .inr ⟨fun i hi hc => ?_, hset.trans h2⟩
          by_cases e2 : i = k
          · subst e2; omega
          · exact h1 i (by omega) hc
theorem lnS_cars (hn : 0 < l.length) (hm : 1 ≤ most) : ∀ {k : Nat}, k ≤ l.length → cN (fun i => at_ 0 (lnS l most sh x k).1 (i : Int)) l.length = cN (fun i => at_ 0 l (i : Int)) k
  | 0, _ => by
    rw [cN_neg (fun i hi => by
      unfold lnS at_
      rw [List.getD_eq_getElem?_getD, Int.toNat_natCast]
      simp [hi])]
    rfl
  | k + 1, hk => by
    have ih := lnS_cars hn hm (k := k) (by omega)
    rw [show cN (fun i => at_ 0 l (i : Int)) (k + 1) = cN (fun i => at_ 0 l (i : Int)) k + if 0 ≤ at_ 0 l (k : Int) then 1 else 0 from rfl]
    by_cases h : at_ 0 l (k : Int) < 0
    · rw [lnS_skip h, ih, if_neg (by omega)]; omega
    · have r := pI_rng (l := l) (most := most) (sh := sh) (x := x) (i := k) hn
      have vb := vI_bnd (l := l) (most := most) (sh := sh) (x := x) (i := k) (by omega) (by omega) hm
      rw [if_pos (by omega), ← ih]
      have hs : ∀ i : Nat, at_ 0 (lnS l most sh x (k + 1)).1 (i : Int) = if (pI l most sh x k).toNat = i then vI l most sh x k else at_ 0 (lnS l most sh x k).1 (i : Int) := fun i => by
        rw [lnS_car (l := l) (most := most) (sh := sh) (x := x) h rfl rfl]
        exact at_setN (l := (lnS l most sh x k).1) (i := (pI l most sh x k).toNat) (j := i) (x := vI l most sh x k) (by rw [lnS_len]; omega)
      refine cN_set (j := (pI l most sh x k).toNat) (by omega) (fun i hi hne => ?_) ?_ ?_
      · show at_ 0 (lnS l most sh x (k + 1)).1 (i : Int) = _
        rw [hs, if_neg (Ne.symm hne)]
      · rcases lnS_at (sh := sh) (x := x) hn hm (k := k) (by omega) (pI l most sh x k).toNat (by omega) with ⟨i, h1, h2, h3, _⟩ | ⟨_, h2⟩
        · have := pI_inj (l := l) (most := most) (sh := sh) (x := x) (i := i) (j := k) (by omega) (by omega) h2 (by omega) hm (by omega)
          omega
        · show at_ 0 (lnS l most sh x k).1 (((pI l most sh x k).toNat : Nat) : Int) < 0
          rw [h2]; decide
      · show 0 ≤ at_ 0 (lnS l most sh x (k + 1)).1 (((pI l most sh x k).toNat : Nat) : Int)
        rw [hs, if_pos rfl]; exact vb.1
theorem ln_cars (hn : 0 < l.length) (hm : 1 ≤ most) : carsN (lnL l most sh x) = carsN l := by
  unfold carsN lnL
  rw [lnS_len]
  exact lnS_cars hn hm (Nat.le_refl _)
theorem lnS_two : ∀ k, (lnS l most sh x k).2 = sdS x (cN (fun i => at_ 0 l (i : Int)) k).toNat
  | 0 => rfl
  | k + 1 => by
    have ih := lnS_two k
    have b := cN_bnd (fun i => at_ 0 l (i : Int)) k
    unfold cN
    by_cases h : at_ 0 l (k : Int) < 0
    · rw [lnS_skip h, ih, if_neg (by omega), Int.add_zero]
    · rw [lnS_car (l := l) (most := most) (sh := sh) (x := x) h rfl rfl, if_pos (by omega)]
      show nxS (lnS l most sh x k).2 = _
      rw [ih, show (cN (fun i => at_ 0 l (i : Int)) k + 1).toNat = (cN (fun i => at_ 0 l (i : Int)) k).toNat + 1 by omega]
      rfl
theorem ln_seed : lnX l most sh x = sdS x (carsN l).toNat := lnS_two _
theorem ln_len : (lnL l most sh x).length = l.length := lnS_len _
/-- What lies at a place behind the step. -/
theorem ln_at (hn : 0 < l.length) (hm : 1 ≤ most) {j : Nat} (hj : j < l.length) :
    -1 ≤ at_ 0 (lnL l most sh x) (j : Int) ∧ at_ 0 (lnL l most sh x) (j : Int) ≤ most ∧ (0 < at_ 0 (lnL l most sh x) (j : Int) → 0 ≤ at_ 0 l (((j : Int) - at_ 0 (lnL l most sh x) (j : Int) % (l.length : Int) + (l.length : Int)) % (l.length : Int))) := by
  unfold lnL
  rcases lnS_at (sh := sh) (x := x) hn hm (Nat.le_refl l.length) j hj with ⟨i, h1, h2, h3, h4⟩ | ⟨_, h2⟩
  · have b := vI_bnd (sh := sh) (x := x) h1 h2 hm
    rw [h4]
    refine ⟨by omega, by omega, fun _ => ?_⟩
    have ev : vI l most sh x i % (l.length : Int) = vI l most sh x i := Int.emod_eq_of_lt (by omega) (by omega)
    rw [ev]
    have e : ((j : Int) - vI l most sh x i + (l.length : Int)) % (l.length : Int) = (i : Int) := by
      rw [Int.add_emod_right, ← h3]
      unfold pI
      rw [Int.sub_emod, Int.emod_emod, ← Int.sub_emod, show (i : Int) + vI l most sh x i - vI l most sh x i = (i : Int) by omega, Int.emod_eq_of_lt (by omega) (by omega)]
    rw [e]; exact h2
  · rw [h2]; exact ⟨by omega, by omega, fun h => by omega⟩
theorem ln_lane (h : isLane l) (hm : 1 ≤ most) (hM : most ≤ 5) : isLane (lnL l most sh x) := by
  obtain ⟨⟨h1, h2⟩, h3⟩ := h
  refine ⟨by rw [ln_len]; exact ⟨h1, h2⟩, fun y hy => ?_⟩
  obtain ⟨j, hj, rfl⟩ := List.getElem_of_mem hy
  have hj' : j < l.length := by rw [ln_len] at hj; exact hj
  have := ln_at (sh := sh) (x := x) (show 0 < l.length by omega) hm hj'
  rw [at_eq 0 _ hj] at this
  omega
/-- A car right behind another one stays. -/
theorem ln_stay (hn : 0 < l.length) (hm : 1 ≤ most) {j : Nat} (hj : j < l.length) (hc : 0 ≤ at_ 0 l (j : Int)) (h1 : 0 ≤ at_ 0 l (((j : Int) + 1) % (l.length : Int))) : 0 ≤ at_ 0 (lnL l most sh x) (j : Int) := by
  have hf : frG l j = 0 := frG_at (fun i hi => by omega) (by unfold lnAt; simpa using h1) (by omega)
  have b := vI_bnd (sh := sh) (x := x) hj hc hm
  rw [hf] at b
  have hv : vI l most sh x j = 0 := by omega
  have hp : pI l most sh x j = j := by
    unfold pI; rw [hv, Int.add_zero, Int.emod_eq_of_lt (by omega) (by omega)]
  unfold lnL
  rcases lnS_at (sh := sh) (x := x) hn hm (Nat.le_refl l.length) j hj with ⟨i, g1, g2, g3, g4⟩ | ⟨g1, _⟩
  · have b2 := vI_bnd (sh := sh) (x := x) g1 g2 hm
    rw [g4]; exact b2.1
  · exact absurd hp (g1 j hj hc)
end
/-- Lanes that are changed. -/
theorem at_sw {a b : List Int} {i : Nat} (h : i < a.length) : at_ 0 (swL a b a.length) (i : Int) = swp a b i := by
  unfold swL at_
  rw [List.getD_eq_getElem?_getD, Int.toNat_natCast, List.getElem?_append_left (by simpa using h)]
  simp [h]
theorem sw_pair (a b : List Int) (i : Nat) : (swp a b i = at_ 0 a i ∧ swp b a i = at_ 0 b i) ∨ (swp a b i = at_ 0 b i ∧ swp b a i = at_ 0 a i ∧ (chg a b i ∨ chg b a i)) := by
  unfold swp
  by_cases h : chg a b i ∨ chg b a i
  · rw [if_pos h, if_pos h.symm]; exact .inr ⟨rfl, rfl, h⟩
  · rw [if_neg h, if_neg (fun g => h g.symm)]; exact .inl ⟨rfl, rfl⟩
theorem sw_cars {a b : List Int} (h : a.length = b.length) : carsN (swL a b a.length) + carsN (swL b a b.length) = carsN a + carsN b := by
  have l1 : (swL a b a.length).length = a.length := swL_length (Nat.le_refl _)
  have l2 : (swL b a b.length).length = b.length := swL_length (Nat.le_refl _)
  unfold carsN
  rw [l1, l2, ← h]
  refine cN_add (fun i hi => ?_)
  have e1 := at_sw (a := a) (b := b) (i := i) hi
  have e2 := at_sw (a := b) (b := a) (i := i) (by omega)
  rw [← h] at e2
  rw [e1, e2]
  rcases sw_pair a b i with ⟨g1, g2⟩ | ⟨g1, g2, _⟩
  · exact .inl ⟨g1, g2⟩
  · exact .inr ⟨g1, g2⟩
end Go.Proofs.Ytdfoobomlabffaa
