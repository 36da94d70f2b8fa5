/- Rules on rings, by plain law: powers, digits, numbers, tables, steps. -/
import Derived.Test.YtelcmohhjkgjoaaRL
namespace Go.Proofs.Ytelcmohhjkgjoaa
open HL
set_option maxRecDepth 100000
/-- A power. -/
def pwr (b n : Int) : Int := b ^ n.toNat
theorem pow_bnd {b : Int} (h0 : 1 ≤ b) (h1 : b ≤ 3) : ∀ i : Nat, 1 ≤ b ^ i ∧ b ^ i ≤ 3 ^ i
  | 0 => by simp
  | i + 1 => by
    have ⟨a, c⟩ := pow_bnd h0 h1 i
    rw [Int.pow_succ, Int.pow_succ]
    exact ⟨Int.le_trans (by omega) (Int.mul_le_mul a h0 (by omega) (by omega)), Int.mul_le_mul c h1 (by omega) (by omega)⟩
theorem pow3_le : ∀ {i j : Nat}, i ≤ j → (3 : Int) ^ i ≤ 3 ^ j := fun {i j} h => by
  obtain ⟨k, rfl⟩ := Nat.exists_eq_add_of_le h
  rw [Int.pow_add]
  have a := (pow_bnd (b := 3) (by omega) (by omega) i).1
  have c := (pow_bnd (b := 3) (by omega) (by omega) k).1
  have := Int.mul_le_mul_of_nonneg_left c (show (0 : Int) ≤ 3 ^ i by omega)
  omega
theorem pow_le16 {b : Int} (h0 : 1 ≤ b) (h1 : b ≤ 3) {i : Nat} (hi : i ≤ 16) : 1 ≤ b ^ i ∧ b ^ i ≤ 43046721 := by
  have ⟨a, c⟩ := pow_bnd h0 h1 i
  have := pow3_le hi
  have e : (3 : Int) ^ 16 = 43046721 := by decide
  omega
theorem pwr_bnd {b n : Int} (h0 : 1 ≤ b) (h1 : b ≤ 3) (hn : n ≤ 16) : 1 ≤ pwr b n ∧ pwr b n ≤ 43046721 := pow_le16 h0 h1 (by omega)
theorem pwr_zero {b : Int} : pwr b 0 = 1 := by simp [pwr]
/-- The digits of a number, the greatest one first. -/
def digL (n b : Int) (k : Nat) : List Int := (List.range k).map fun (t : Nat) => n / b ^ (k - 1 - t) % b
theorem digL_len (n b : Int) (k : Nat) : (digL n b k).length = k := by simp [digL]
/-- The digits when j of them are told. -/
def digF (n b : Int) (k j : Nat) : List Int := (List.range k).map fun (t : Nat) => if k - j ≤ t then n / b ^ (k - 1 - t) % b else 0
theorem digF_len (n b : Int) (k j : Nat) : (digF n b k j).length = k := by simp [digF]
theorem digF_zero (n b : Int) (k : Nat) : digF n b k 0 = List.replicate k 0 := by
  apply List.ext_getElem
  · simp [digF]
  · intro i h1 h2
    simp only [digF_len] at h1
    simp only [digF, List.getElem_map, List.getElem_range, List.getElem_replicate]
    rw [if_neg (by omega)]
theorem digF_set {n b : Int} {k j : Nat} (hj : j < k) : (digF n b k j).set (k - 1 - j) (n / b ^ j % b) = digF n b k (j + 1) := by
  apply List.ext_getElem
  · simp [digF]
  · intro i h1 h2
    simp only [digF_len] at h2
    simp only [digF, List.getElem_set, List.getElem_map, List.getElem_range]
    by_cases e : k - 1 - j = i
    · subst e; rw [if_pos rfl, if_pos (by omega), show k - 1 - (k - 1 - j) = j by omega]
    · rw [if_neg e]
      by_cases e2 : k - j ≤ i
      · rw [if_pos e2, if_pos (by omega)]
      · rw [if_neg e2, if_neg (by omega)]
theorem digF_end {n b : Int} {k j : Nat} (h : k ≤ j) : digF n b k j = digL n b k := by
  apply List.ext_getElem
  · simp [digF, digL]
  · intro i h1 h2
    simp only [digF, digL, List.getElem_map, List.getElem_range]
    rw [if_pos (by omega)]
theorem div_pow_succ {n b : Int} (h : 0 ≤ b) (j : Nat) : n / b ^ j / b = n / b ^ (j + 1) := by
  rw [Int.pow_succ, Int.ediv_ediv_of_nonneg (Int.pow_nonneg h)]
theorem div_pow_bnd {n b : Int} (h0 : 0 ≤ n) (h : 1 ≤ b) (j : Nat) : 0 ≤ n / b ^ j ∧ n / b ^ j ≤ n := by
  have hp : 0 < b ^ j := Int.pow_pos (by omega)
  exact ⟨Int.ediv_nonneg h0 (by omega), Int.ediv_le_self _ h0⟩
theorem digL_in {n b : Int} {k : Nat} (h : 1 ≤ b) : ∀ x ∈ digL n b k, 0 ≤ x ∧ x ≤ b - 1 := by
  intro x hx
  simp only [digL, List.mem_map, List.mem_range] at hx
  obtain ⟨t, _, rfl⟩ := hx
  have a := Int.emod_nonneg (n / b ^ (k - 1 - t)) (b := b) (by omega)
  have c := Int.emod_lt_of_pos (n / b ^ (k - 1 - t)) (b := b) (by omega)
  omega
/-- The number with digits, the greatest one first. -/
def numL (b : Int) (l : List Int) : Int := l.foldl (fun a d => a * b + d) 0
theorem numL_snoc (b : Int) (l : List Int) (x : Int) : numL b (l ++ [x]) = numL b l * b + x := by simp [numL]
theorem numL_nil (b : Int) : numL b [] = 0 := rfl
theorem numL_take {b : Int} {l : List Int} {i : Nat} (h : i < l.length) : numL b (l.take (i + 1)) = numL b (l.take i) * b + at_ 0 l (i : Int) := by
  rw [take_at 0 l h, numL_snoc]
theorem numA_bnd {b : Int} (hb : 1 ≤ b) : ∀ {l : List Int} {a : Int}, 0 ≤ a → (∀ x ∈ l, 0 ≤ x ∧ x ≤ b - 1) → 0 ≤ l.foldl (fun a d => a * b + d) a ∧ l.foldl (fun a d => a * b + d) a < (a + 1) * b ^ l.length
  | [], a, ha, _ => by simp; omega
  | x :: l, a, ha, h => by
    have hx := h x (by simp)
    have h1 : 0 ≤ a * b := Int.mul_nonneg ha (by omega)
    have ⟨p, q⟩ := numA_bnd hb (l := l) (a := a * b + x) (by omega) (fun y hy => h y (by simp [hy]))
    rw [List.foldl_cons, List.length_cons, Int.pow_succ]
    refine ⟨p, Int.lt_of_lt_of_le q ?_⟩
    rw [show (a + 1) * (b ^ l.length * b) = (a * b + b) * b ^ l.length by rw [Int.mul_comm (b ^ l.length) b, ← Int.mul_assoc, Int.add_mul, Int.one_mul]]
    exact Int.mul_le_mul_of_nonneg_right (by omega) (Int.pow_nonneg (by omega))
theorem numL_bnd {b : Int} (hb : 1 ≤ b) {l : List Int} (h : ∀ x ∈ l, 0 ≤ x ∧ x ≤ b - 1) : 0 ≤ numL b l ∧ numL b l < b ^ l.length := by
  have := numA_bnd hb (a := 0) (by omega) h
  rw [Int.zero_add, Int.one_mul] at this
  exact this
theorem numL_bnd16 {b : Int} {l : List Int} (h0 : 1 ≤ b) (h1 : b ≤ 3) (h : ∀ x ∈ l, 0 ≤ x ∧ x ≤ b - 1) (hl : l.length ≤ 16) : 0 ≤ numL b l ∧ numL b l < 43046721 := by
  have ⟨a, c⟩ := numL_bnd h0 h
  have := (pow_le16 h0 h1 hl).2
  omega
theorem take_in {p : Int → Prop} {l : List Int} {n : Nat} (h : ∀ x ∈ l, p x) : ∀ x ∈ l.take n, p x := fun x hx => h x (List.mem_of_mem_take hx)
theorem drop_in {p : Int → Prop} {l : List Int} {n : Nat} (h : ∀ x ∈ l, p x) : ∀ x ∈ l.drop n, p x := fun x hx => h x (List.mem_of_mem_drop hx)
/-- A rule. -/
def ruleP (st rc : Int) (T : List Int) : Prop := (st = 2 ∨ st = 3) ∧ (0 ≤ rc ∧ rc ≤ 2) ∧ (T.length : Int) = pwr st (2 * rc + 1) ∧ ∀ x ∈ T, 0 ≤ x ∧ x ≤ st - 1
instance (st rc : Int) (T : List Int) : Decidable (ruleP st rc T) := by unfold ruleP; infer_instance
theorem ruleP_len {st rc : Int} {T : List Int} (h : ruleP st rc T) : 2 ≤ (T.length : Int) ∧ (T.length : Int) ≤ 243 := by
  obtain ⟨h1, h2, h3, _⟩ := h
  rw [h3]
  rcases h1 with rfl | rfl <;> (have : rc = 0 ∨ rc = 1 ∨ rc = 2 := by omega) <;> rcases this with rfl | rfl | rfl <;> decide
/-- The number of the cells around a cell, the first t of them. -/
def hdN (st rc : Int) (ring : List Int) (i : Int) : Nat → Int
  | 0 => 0
  | t + 1 => hdN st rc ring i t * st + at_ 0 ring ((i - rc + (t : Int)) % (ring.length : Int))
/-- What a cell becomes. -/
def tdN (st rc : Int) (T ring : List Int) (i : Int) : Int := at_ 0 T (hdN st rc ring i (2 * rc + 1).toNat)
/-- The next ring, its first n cells. -/
def stpF (st rc : Int) (T ring : List Int) (n : Nat) : List Int := (List.range n).map fun (i : Nat) => tdN st rc T ring i
def stpL (st rc : Int) (T ring : List Int) : List Int := stpF st rc T ring ring.length
theorem stpF_len (st rc : Int) (T ring : List Int) (n : Nat) : (stpF st rc T ring n).length = n := by simp [stpF]
theorem stpL_len (st rc : Int) (T ring : List Int) : (stpL st rc T ring).length = ring.length := stpF_len _ _ _ _ _
theorem stpF_succ (st rc : Int) (T ring : List Int) (n : Nat) : stpF st rc T ring n ++ [tdN st rc T ring n] = stpF st rc T ring (n + 1) := by simp [stpF, List.range_succ]
theorem hdN_bnd {st rc : Int} {ring : List Int} (h0 : 1 ≤ st) (hr : ∀ x ∈ ring, 0 ≤ x ∧ x ≤ st - 1) (hn : 0 < ring.length) (i : Int) : ∀ t, 0 ≤ hdN st rc ring i t ∧ hdN st rc ring i t < st ^ t
  | 0 => by simp [hdN]
  | t + 1 => by
    have ⟨a, c⟩ := hdN_bnd (rc := rc) h0 hr hn i t
    have b1 := Int.emod_nonneg (i - rc + (t : Int)) (b := (ring.length : Int)) (by omega)
    have b2 := Int.emod_lt_of_pos (i - rc + (t : Int)) (b := (ring.length : Int)) (by omega)
    have hx := hr _ (at_mem 0 ring b1 b2)
    rw [hdN, Int.pow_succ]
    have h1 : 0 ≤ hdN st rc ring i t * st := Int.mul_nonneg a (by omega)
    have h2 : (hdN st rc ring i t + 1) * st ≤ st ^ t * st := Int.mul_le_mul_of_nonneg_right (by omega) (by omega)
    rw [Int.add_mul] at h2
    omega
theorem hdN_bnd5 {st rc : Int} {ring : List Int} (h0 : 1 ≤ st) (h1 : st ≤ 3) (hr : ∀ x ∈ ring, 0 ≤ x ∧ x ≤ st - 1) (hn : 0 < ring.length) (i : Int) {t : Nat} (ht : t ≤ 16) : 0 ≤ hdN st rc ring i t ∧ hdN st rc ring i t < 43046721 := by
  have ⟨a, c⟩ := hdN_bnd (rc := rc) h0 hr hn i t
  have := (pow_le16 h0 h1 ht).2
  omega
theorem hdN_ix {st rc : Int} {T ring : List Int} (h : ruleP st rc T) (hr : ∀ x ∈ ring, 0 ≤ x ∧ x ≤ st - 1) (hn : 0 < ring.length) (i : Int) : 0 ≤ hdN st rc ring i (2 * rc + 1).toNat ∧ hdN st rc ring i (2 * rc + 1).toNat < T.length := by
  obtain ⟨h1, h2, h3, _⟩ := h
  have := hdN_bnd (rc := rc) (show 1 ≤ st by omega) hr hn i (2 * rc + 1).toNat
  rw [h3]; exact this
theorem tdN_in {st rc : Int} {T ring : List Int} (h : ruleP st rc T) (hr : ∀ x ∈ ring, 0 ≤ x ∧ x ≤ st - 1) (hn : 0 < ring.length) (i : Int) : 0 ≤ tdN st rc T ring i ∧ tdN st rc T ring i ≤ st - 1 := by
  have := hdN_ix h hr hn i
  exact h.2.2.2 _ (at_mem 0 T this.1 this.2)
theorem stpF_in {st rc : Int} {T ring : List Int} (h : ruleP st rc T) (hr : ∀ x ∈ ring, 0 ≤ x ∧ x ≤ st - 1) (hn : 0 < ring.length) (n : Nat) : ∀ x ∈ stpF st rc T ring n, 0 ≤ x ∧ x ≤ st - 1 := by
  intro x hx
  simp only [stpF, List.mem_map, List.mem_range] at hx
  obtain ⟨i, _, rfl⟩ := hx
  exact tdN_in h hr hn i
theorem stpL_ring {st rc : Int} {T ring : List Int} (h : ruleP st rc T) (hr : ringP st ring) : ringP st (stpL st rc T ring) := by
  refine ⟨stpF_in h hr.1 (by have := hr.2; omega) _, ?_, ?_⟩ <;> rw [stpL_len]
  · exact hr.2.1
  · exact hr.2.2
theorem fmod_eq {a n : Int} (hn : 0 < n) : (a.tmod n + n) % n = a % n ∧ 0 ≤ a.tmod n + n ∧ a.tmod n + n < 2 * n := by
  have h1 := Int.tmod_lt_of_pos a hn
  have h2 : -n < a.tmod n := by
    rcases Int.le_total 0 a with h | h
    · have := Int.tmod_nonneg n h; omega
    · have e : (-a).tmod n = - a.tmod n := Int.neg_tmod a n
      have := Int.tmod_lt_of_pos (-a) hn
      omega
  refine ⟨?_, by omega, by omega⟩
  rw [Int.add_emod_right]
  have e := Int.mul_tdiv_add_tmod a n
  conv => rhs; rw [← e]
  rw [Int.add_comm, Int.add_mul_emod_self_left]
end Go.Proofs.Ytelcmohhjkgjoaa
