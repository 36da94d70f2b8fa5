/- Kept sums: tables of two states. -/
import Derived.Test.YtelcmohhjkgjoaaRK
namespace Go.Proofs.Ytelcmohhjkgjoaa
open HL
set_option maxRecDepth 100000
set_option maxHeartbeats 4000000
theorem keep_flow1 : ∀ N : Nat, N < 256 → keepP 2 1 (digL (N : Int) 2 8) → ∀ a : Nat, a < 2 → ∀ b : Nat, b < 2 → ∀ c : Nat, c < 2 → at_ 0 (digL (N : Int) 2 8) (4 * (a : Int) + 2 * (b : Int) + (c : Int)) - (b : Int) = at_ 0 (flwL 2 1 (digL (N : Int) 2 8)) (2 * (a : Int) + (b : Int)) - at_ 0 (flwL 2 1 (digL (N : Int) 2 8)) (2 * (b : Int) + (c : Int)) := by decide +kernel
theorem keep_flow0 : ∀ N : Nat, N < 4 → keepP 2 0 (digL (N : Int) 2 2) → ∀ a : Nat, a < 2 → at_ 0 (digL (N : Int) 2 2) (a : Int) = (a : Int) := by decide +kernel
theorem keep_kc1 : ∀ N : Nat, N < 256 → keepP 2 1 (digL (N : Int) 2 8) → ∀ n : Nat, n < 5 → kcP 2 1 (digL (N : Int) 2 8) ((n : Int) + 3) := by decide +kernel
theorem keep_kc0 : ∀ N : Nat, N < 4 → keepP 2 0 (digL (N : Int) 2 2) → ∀ n : Nat, n < 5 → kcP 2 0 (digL (N : Int) 2 2) ((n : Int) + 1) := by decide +kernel
/-- A list of zeros and ones is the digits of its number. -/
theorem dig_of {l : List Int} (h : ∀ x ∈ l, 0 ≤ x ∧ x ≤ 1) : ∃ N : Nat, N < 2 ^ l.length ∧ l = digL (N : Int) 2 l.length := by
  suffices hs : ∀ k (l : List Int), l.length = k → (∀ x ∈ l, 0 ≤ x ∧ x ≤ 1) → ∃ N : Nat, N < 2 ^ k ∧ l = digL (N : Int) 2 k from hs _ l rfl h
  intro k
  induction k with
  | zero => intro l hl _; exact ⟨0, by omega, by cases l with | nil => rfl | cons _ _ => simp at hl⟩
  | succ k ih =>
    intro l hl hx
    obtain ⟨l', x, rfl⟩ : ∃ l' x, l = l' ++ [x] := by
      rcases List.eq_nil_or_concat l with rfl | ⟨l', x, rfl⟩
      · simp at hl
      · exact ⟨l', x, by simp⟩
    simp only [List.length_append, List.length_singleton] at hl
    obtain ⟨N, hN, he⟩ := ih l' (by omega) (fun y hy => hx y (by simp [hy]))
    have h1 := hx x (by simp)
    obtain ⟨b, rfl⟩ := Int.eq_ofNat_of_zero_le h1.1
    refine ⟨2 * N + b, by rw [Nat.pow_succ]; omega, ?_⟩
    rw [he]
    apply List.ext_getElem
    · simp [digL]
    · intro i g1 g2
      simp only [List.length_append, digL_len, List.length_singleton] at g1
      by_cases hi : i < k
      · rw [List.getElem_append_left (by rw [digL_len]; exact hi)]
        simp only [digL, List.getElem_map, List.getElem_range]
        rw [show k + 1 - 1 - i = (k - 1 - i) + 1 by omega, Int.pow_succ, Int.mul_comm (2 ^ (k - 1 - i)) 2, ← Int.ediv_ediv_of_nonneg (by omega), show ((2 * N + b : Nat) : Int) / 2 = (N : Int) by omega]
      · have : i = k := by omega
        subst this
        rw [List.getElem_append_right (by rw [digL_len]; omega)]
        simp only [digL, List.getElem_map, List.getElem_range, digL_len, Nat.sub_self, List.getElem_singleton]
        rw [show i + 1 - 1 - i = 0 by omega, Int.pow_zero, Int.ediv_one]; omega
theorem td1 {T l : List Int} {i : Int} : tdN 2 1 T l i = at_ 0 T (4 * at_ 0 l ((i - 1) % (l.length : Int)) + 2 * at_ 0 l (i % (l.length : Int)) + at_ 0 l ((i + 1) % (l.length : Int))) := by
  unfold tdN
  rw [show (2 * 1 + 1 : Int).toNat = 3 from rfl]
  simp only [hdN]
  congr 1
  rw [show i - 1 + ((0 : Nat) : Int) = i - 1 by omega, show i - 1 + ((1 : Nat) : Int) = i by omega, show i - 1 + ((2 : Nat) : Int) = i + 1 by omega]
  omega
theorem tab8 {T : List Int} (h : ruleP 2 1 T) : ∃ N : Nat, N < 256 ∧ T = digL (N : Int) 2 8 := by
  have hl : T.length = 8 := by
    have e : pwr 2 (2 * 1 + 1) = 8 := by decide
    have := h.2.2.1; omega
  obtain ⟨N, h1, h2⟩ := dig_of (l := T) (fun x hx => by have := h.2.2.2 x hx; omega)
  rw [hl] at h1 h2
  exact ⟨N, h1, h2⟩
theorem tab2 {T : List Int} (h : ruleP 2 0 T) : ∃ N : Nat, N < 4 ∧ T = digL (N : Int) 2 2 := by
  have hl : T.length = 2 := by
    have e : pwr 2 (2 * 0 + 1) = 2 := by decide
    have := h.2.2.1; omega
  obtain ⟨N, h1, h2⟩ := dig_of (l := T) (fun x hx => by have := h.2.2.2 x hx; omega)
  rw [hl] at h1 h2
  exact ⟨N, h1, h2⟩
/-- Rules that keep the sum keep how often there is a one. -/
theorem keep_kc {rc n : Int} {T : List Int} (h : ruleP 2 rc T) (hr : rc ≤ 1) (h0 : 2 * rc + 1 ≤ n) (h1 : n ≤ 2 * rc + 5) (hk : keepP 2 rc T) : kcP 2 rc T n := by
  have := h.2.1
  have e : rc = 0 ∨ rc = 1 := by omega
  rcases e with rfl | rfl
  · obtain ⟨N, hN, rfl⟩ := tab2 h
    have := keep_kc0 N hN hk (n - 1).toNat (by omega)
    rwa [show (((n - 1).toNat : Nat) : Int) + 1 = n by omega] at this
  · obtain ⟨N, hN, rfl⟩ := tab8 h
    have := keep_kc1 N hN hk (n - 3).toNat (by omega)
    rwa [show (((n - 3).toNat : Nat) : Int) + 3 = n by omega] at this
/-- What a cell becomes less what it was, by the flows at its sides. -/
theorem keep_flow {T l : List Int} {i : Int} (h : ruleP 2 1 T) (hl : ∀ x ∈ l, 0 ≤ x ∧ x ≤ 1) (i0 : 0 ≤ i) (i1 : i < l.length) (hk : keepP 2 1 T) :
    tdN 2 1 T l i - at_ 0 l i = at_ 0 (flwL 2 1 T) (2 * at_ 0 l ((i + (l.length : Int) - 1) % (l.length : Int)) + at_ 0 l i) - at_ 0 (flwL 2 1 T) (2 * at_ 0 l i + at_ 0 l ((i + 1) % (l.length : Int))) := by
  have e0 : (i + (l.length : Int) - 1) % (l.length : Int) = (i - 1) % (l.length : Int) := by rw [show i + (l.length : Int) - 1 = i - 1 + (l.length : Int) by omega, Int.add_emod_right]
  have e1 : i % (l.length : Int) = i := Int.emod_eq_of_lt i0 i1
  have m : ∀ j : Int, 0 ≤ at_ 0 l (j % (l.length : Int)) ∧ at_ 0 l (j % (l.length : Int)) ≤ 1 := fun j => hl _ (at_mem 0 l (Int.emod_nonneg _ (by omega)) (Int.emod_lt_of_pos _ (by omega)))
  rw [td1, e0]
  have ma := m (i - 1)
  have mb := m i
  have mc := m (i + 1)
  rw [e1] at mb ⊢
  obtain ⟨a, ha⟩ := Int.eq_ofNat_of_zero_le ma.1
  obtain ⟨b, hb⟩ := Int.eq_ofNat_of_zero_le mb.1
  obtain ⟨c, hc⟩ := Int.eq_ofNat_of_zero_le mc.1
  obtain ⟨N, hN, rfl⟩ := tab8 h
  rw [ha, hb, hc]
  exact keep_flow1 N hN hk a (by omega) b (by omega) c (by omega)
theorem stpL_at {st rc : Int} {T l : List Int} {i : Int} (h0 : 0 ≤ i) (h1 : i < l.length) : at_ 0 (stpL st rc T l) i = tdN st rc T l i := by
  obtain ⟨k, rfl⟩ := Int.eq_ofNat_of_zero_le h0
  rw [at_eq 0 _ (by rw [stpL_len]; omega)]
  simp [stpL, stpF]
theorem keep_flowL {rc n i : Int} {T l : List Int} (h : ruleP 2 rc T) (hr : 1 ≤ rc ∧ rc ≤ 1) (hl : ringP 2 l) (hn : (l.length : Int) = n) (i0 : 0 ≤ i) (i1 : i < n) (hk : keepP 2 rc T) :
    at_ 0 (stpL 2 rc T l) i - at_ 0 l i = at_ 0 (flwL 2 rc T) (2 * at_ 0 l ((i + n - 1) % n) + at_ 0 l i) - at_ 0 (flwL 2 rc T) (2 * at_ 0 l i + at_ 0 l ((i + 1) % n)) := by
  obtain rfl : rc = 1 := by omega
  subst hn
  rw [stpL_at i0 i1]
  exact keep_flow h hl.1 i0 i1 hk
theorem flwL_len4 {rc : Int} {T : List Int} (hr : 1 ≤ rc ∧ rc ≤ 1) : (flwL 2 rc T).length = 4 := by
  obtain rfl : rc = 1 := by omega
  unfold flwL; rw [flwF_len]; decide
theorem flw_in {st rc : Int} {T : List Int} (h : ruleP st rc T) : ∀ x ∈ flwL st rc T, -8 ≤ x ∧ x ≤ 4 := by
  intro x hx
  simp only [flwL, flwF, List.mem_map, List.mem_range] at hx
  obtain ⟨i, _, rfl⟩ := hx
  have := flS_bnd h (digL_in (n := (i : Int)) (b := st) (k := (2 * rc).toNat) (by have := h.1; omega)) (2 * rc).toNat
  have := h.2.1
  omega
theorem ruleP8 {l : List Int} (h : l.length = 8) (ha : ∀ x ∈ l, 0 ≤ x ∧ x ≤ 1) : ruleP 2 1 l :=
  ⟨Or.inl rfl, ⟨by omega, by omega⟩, by rw [h]; decide, fun x hx => by have := ha x hx; omega⟩
end Go.Proofs.Ytelcmohhjkgjoaa
