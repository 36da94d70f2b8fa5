/- Rules that add: sums of weights, products of rings. -/
import Derived.Test.YtelcmohhjkgjoaaRB
namespace Go.Proofs.Ytelcmohhjkgjoaa
open HL
set_option maxRecDepth 100000
/-- A sum of the first values. -/
def sumZ (f : Nat → Int) : Nat → Int
  | 0 => 0
  | n + 1 => sumZ f n + f n
theorem sumZ_congr {f g : Nat → Int} : ∀ {n : Nat}, (∀ i, i < n → f i = g i) → sumZ f n = sumZ g n
  | 0, _ => rfl
  | n + 1, h => by rw [sumZ, sumZ, sumZ_congr (fun i hi => h i (by omega)), h n (by omega)]
theorem sumZ_zero {f : Nat → Int} : ∀ {n : Nat}, (∀ i, i < n → f i = 0) → sumZ f n = 0
  | 0, _ => rfl
  | n + 1, h => by rw [sumZ, sumZ_zero (fun i hi => h i (by omega)), h n (by omega)]; rfl
theorem sumZ_bnd {f : Nat → Int} {a b : Int} (ha : a ≤ 0) (hb : 0 ≤ b) (h : ∀ i, a ≤ f i ∧ f i ≤ b) : ∀ n : Nat, a * n ≤ sumZ f n ∧ sumZ f n ≤ b * n
  | 0 => by simp [sumZ]
  | n + 1 => by
    have ih := sumZ_bnd ha hb h n
    have := h n
    rw [sumZ, Int.natCast_add, Int.mul_add, Int.mul_add]
    simp only [Int.natCast_one, Int.mul_one]
    omega
theorem sumZ_add {f g : Nat → Int} : ∀ n : Nat, sumZ (fun i => f i + g i) n = sumZ f n + sumZ g n
  | 0 => rfl
  | n + 1 => by rw [sumZ, sumZ, sumZ, sumZ_add n]; omega
theorem sumZ_swap {f : Nat → Nat → Int} {m : Nat} : ∀ n : Nat, sumZ (fun i => sumZ (f i) m) n = sumZ (fun k => sumZ (fun i => f i k) n) m
  | 0 => (sumZ_zero (fun k _ => rfl)).symm
  | n + 1 => by
    rw [sumZ, sumZ_swap n, ← sumZ_add]
    rfl
/-- The sum of weights of a neighbourhood's cells. -/
def wgS (w : List Int) (cells : List Int) : Int := sumZ (fun i => at_ 0 w (i : Int) * at_ 0 cells (i : Int)) w.length
/-- The table of weights. -/
def wgF (st : Int) (w : List Int) (n : Nat) : List Int := (List.range n).map fun (h : Nat) => wgS w (digL h st w.length) % st
def wgL (st : Int) (w : List Int) : List Int := wgF st w (pwr st w.length).toNat
theorem wgF_len (st : Int) (w : List Int) (n : Nat) : (wgF st w n).length = n := by simp [wgF]
theorem wgF_succ (st : Int) (w : List Int) (n : Nat) : wgF st w n ++ [wgS w (digL n st w.length) % st] = wgF st w (n + 1) := by simp [wgF, List.range_succ]
/-- The terms of a rule: what the neighbourhoods with a single 1 lead to. -/
def tmF (st rc : Int) (T : List Int) (n : Nat) : List Int := (List.range n).map fun (j : Nat) => at_ 0 T (pwr st (2 * rc - (j : Int)))
def tmL (st rc : Int) (T : List Int) : List Int := tmF st rc T (2 * rc + 1).toNat
theorem tmF_len (st rc : Int) (T : List Int) (n : Nat) : (tmF st rc T n).length = n := by simp [tmF]
theorem tmF_succ (st rc : Int) (T : List Int) (n : Nat) : tmF st rc T n ++ [at_ 0 T (pwr st (2 * rc - (n : Int)))] = tmF st rc T (n + 1) := by simp [tmF, List.range_succ]
theorem pwr_lt {st rc : Int} {T : List Int} (h : ruleP st rc T) {j : Int} (h0 : 0 ≤ j) (h1 : j ≤ 2 * rc) : 0 ≤ pwr st j ∧ pwr st j < T.length := by
  obtain ⟨g1, g2, g3, _⟩ := h
  rw [g3]
  obtain ⟨n, rfl⟩ := Int.eq_ofNat_of_zero_le h0
  obtain ⟨m, hm⟩ := Int.eq_ofNat_of_zero_le (show 0 ≤ 2 * rc + 1 by omega)
  rw [hm]
  unfold pwr
  simp only [Int.toNat_natCast]
  have p := pow_bnd (b := st) (by omega) (by omega) n
  refine ⟨by omega, ?_⟩
  obtain ⟨k, rfl⟩ : ∃ k, m = n + 1 + k := ⟨m - n - 1, by omega⟩
  rw [Int.pow_add, Int.pow_succ]
  have q := pow_bnd (b := st) (by omega) (by omega) k
  have h2 : st ^ n * 2 ≤ st ^ n * st := Int.mul_le_mul_of_nonneg_left (by omega) (by omega)
  have h3 := Int.mul_le_mul_of_nonneg_left q.1 (show 0 ≤ st ^ n * st by omega)
  omega
theorem tmF_in {st rc : Int} {T : List Int} (h : ruleP st rc T) {n : Nat} (hn : (n : Int) ≤ 2 * rc + 1) : ∀ x ∈ tmF st rc T n, 0 ≤ x ∧ x ≤ st - 1 := by
  intro x hx
  simp only [tmF, List.mem_map, List.mem_range] at hx
  obtain ⟨j, hj, rfl⟩ := hx
  have := pwr_lt h (j := 2 * rc - (j : Int)) (by omega) (by omega)
  exact h.2.2.2 _ (at_mem 0 T this.1 this.2)
/-- A rule that adds. -/
def addP (st rc : Int) (T : List Int) : Prop := T = wgL st (tmL st rc T)
instance (st rc : Int) (T : List Int) : Decidable (addP st rc T) := by unfold addP; infer_instance
theorem at_bnd {l : List Int} {b : Int} (hb : 0 ≤ b) (h : ∀ x ∈ l, 0 ≤ x ∧ x ≤ b) (i : Int) : 0 ≤ at_ 0 l i ∧ at_ 0 l i ≤ b := by
  unfold at_
  rw [List.getD_eq_getElem?_getD]
  cases e : l[i.toNat]? with
  | none => simp only [Option.getD_none]; omega
  | some x => exact h x (List.mem_of_getElem? e)
/-- Which cell of a product a pair goes to. -/
def prT (a b : List Int) (n : Int) (j : Int) (i k : Nat) : Int := if ((i : Int) + (k : Int)) % n = j then at_ 0 a (i : Int) * at_ 0 b (k : Int) else 0
def prS (a b : List Int) (n : Int) (j : Int) (i : Nat) : Int := sumZ (prT a b n j i) b.length
/-- The product of two rings. -/
def prL (st : Int) (a b : List Int) : List Int := (List.range a.length).map fun (j : Nat) => sumZ (prS a b a.length j) a.length % st
theorem prL_len (st : Int) (a b : List Int) : (prL st a b).length = a.length := by simp [prL]
theorem prL_in {st : Int} (a b : List Int) (h : 1 ≤ st) : ∀ x ∈ prL st a b, 0 ≤ x ∧ x ≤ st - 1 := by
  intro x hx
  simp only [prL, List.mem_map, List.mem_range] at hx
  obtain ⟨j, _, rfl⟩ := hx
  have x1 := Int.emod_nonneg (sumZ (prS a b a.length j) a.length) (b := st) (by omega)
  have x2 := Int.emod_lt_of_pos (sumZ (prS a b a.length j) a.length) (b := st) (by omega)
  omega
/-- The product, some rows and some columns of the next one told: with a remainder each time. -/
def prF (st : Int) (a b : List Int) (i k : Nat) : List Int := (List.range a.length).map fun (j : Nat) => (sumZ (prS a b a.length j) i + sumZ (prT a b a.length j i) k) % st
theorem prF_len (st : Int) (a b : List Int) (i k : Nat) : (prF st a b i k).length = a.length := by simp [prF]
theorem prF_at {st : Int} {a b : List Int} {i k : Nat} {j : Int} (h0 : 0 ≤ j) (h : j < a.length) : at_ 0 (prF st a b i k) j = (sumZ (prS a b a.length j) i + sumZ (prT a b a.length j i) k) % st := by
  obtain ⟨m, rfl⟩ := Int.eq_ofNat_of_zero_le h0
  rw [at_eq 0 _ (by rw [prF_len]; omega)]
  simp [prF]
theorem prF_zero {st : Int} (a b : List Int) : prF st a b 0 0 = List.replicate a.length 0 := by
  apply List.ext_getElem
  · simp [prF]
  · intro i h1 h2
    simp [prF, sumZ]
theorem prF_row {st : Int} (a b : List Int) (i : Nat) : prF st a b i b.length = prF st a b (i + 1) 0 := by
  apply List.ext_getElem
  · simp [prF]
  · intro j h1 h2
    simp only [prF, List.getElem_map, List.getElem_range, sumZ, Int.add_zero]
    rfl
theorem prF_skip {st : Int} {a b : List Int} {i : Nat} (h : at_ 0 a (i : Int) = 0) : prF st a b i 0 = prF st a b (i + 1) 0 := by
  apply List.ext_getElem
  · simp [prF]
  · intro j h1 h2
    simp only [prF, List.getElem_map, List.getElem_range, sumZ, Int.add_zero]
    rw [show prS a b a.length j i = 0 from sumZ_zero (fun k _ => by unfold prT; rw [h, Int.zero_mul]; split <;> rfl), Int.add_zero]
theorem prF_end {st : Int} (a b : List Int) : prF st a b a.length 0 = prL st a b := by
  apply List.ext_getElem
  · simp [prF, prL]
  · intro j h1 h2
    simp only [prF, prL, List.getElem_map, List.getElem_range, sumZ, Int.add_zero]
theorem prF_set {st : Int} {a b : List Int} {i k : Nat} {j : Int} (hj : j = ((i : Int) + (k : Int)) % (a.length : Int)) (h0 : 0 ≤ j) (h1 : j < a.length) : (prF st a b i k).set j.toNat ((at_ 0 (prF st a b i k) j + at_ 0 a (i : Int) * at_ 0 b (k : Int)) % st) = prF st a b i (k + 1) := by
  rw [prF_at h0 h1]
  apply List.ext_getElem
  · simp [prF]
  · intro m g1 g2
    rw [prF_len] at g2
    simp only [List.getElem_set, prF, List.getElem_map, List.getElem_range, sumZ]
    by_cases e : j.toNat = m
    · rw [if_pos e]
      have : j = (m : Int) := by omega
      subst this
      rw [Int.emod_add_emod, Int.add_assoc]
      congr 2
      unfold prT
      rw [if_pos hj.symm]
    · rw [if_neg e]
      have : prT a b a.length m i k = 0 := by unfold prT; rw [if_neg (by omega)]
      rw [this, Int.add_zero]
/-- The same, the other way round, and without remainders. -/
def qrF (a b : List Int) (k i : Nat) : List Int := (List.range a.length).map fun (j : Nat) => sumZ (fun k => sumZ (fun i => prT a b a.length j i k) a.length) k + sumZ (fun i => prT a b a.length j i k) i
theorem qrF_len (a b : List Int) (i k : Nat) : (qrF a b i k).length = a.length := by simp [qrF]
theorem qrF_at {a b : List Int} {i k : Nat} {j : Int} (h0 : 0 ≤ j) (h : j < a.length) : at_ 0 (qrF a b k i) j = sumZ (fun k => sumZ (fun i => prT a b a.length j i k) a.length) k + sumZ (fun i => prT a b a.length j i k) i := by
  obtain ⟨m, rfl⟩ := Int.eq_ofNat_of_zero_le h0
  rw [at_eq 0 _ (by rw [qrF_len]; omega)]
  simp [qrF]
theorem qrF_zero (a b : List Int) : qrF a b 0 0 = List.replicate a.length 0 := by
  apply List.ext_getElem
  · simp [qrF]
  · intro i h1 h2
    simp [qrF, sumZ]
theorem qrF_row (a b : List Int) (k : Nat) : qrF a b k a.length = qrF a b (k + 1) 0 := by
  apply List.ext_getElem
  · simp [qrF]
  · intro j h1 h2
    simp only [qrF, List.getElem_map, List.getElem_range, sumZ, Int.add_zero]
theorem qrF_skip {a b : List Int} {k : Nat} (h : at_ 0 b (k : Int) = 0) : qrF a b k 0 = qrF a b (k + 1) 0 := by
  apply List.ext_getElem
  · simp [qrF]
  · intro j h1 h2
    simp only [qrF, List.getElem_map, List.getElem_range, sumZ, Int.add_zero]
    rw [show sumZ (fun i => prT a b a.length j i k) a.length = 0 from sumZ_zero (fun i _ => by unfold prT; rw [h, Int.mul_zero]; split <;> rfl), Int.add_zero]
theorem qrF_set {a b : List Int} {i k : Nat} {j : Int} (hj : j = ((i : Int) + (k : Int)) % (a.length : Int)) (h0 : 0 ≤ j) (h1 : j < a.length) : (qrF a b k i).set j.toNat (at_ 0 (qrF a b k i) j + at_ 0 a (i : Int) * at_ 0 b (k : Int)) = qrF a b k (i + 1) := by
  rw [qrF_at h0 h1]
  apply List.ext_getElem
  · simp [qrF]
  · intro m g1 g2
    rw [qrF_len] at g2
    simp only [List.getElem_set, qrF, List.getElem_map, List.getElem_range, sumZ]
    by_cases e : j.toNat = m
    · rw [if_pos e]
      have : j = (m : Int) := by omega
      subst this
      have e2 : prT a b a.length (m : Int) i k = at_ 0 a (i : Int) * at_ 0 b (k : Int) := by unfold prT; rw [if_pos hj.symm]
      rw [e2]; omega
    · rw [if_neg e]
      have : prT a b a.length m i k = 0 := by unfold prT; rw [if_neg (by omega)]
      rw [this, Int.add_zero]
theorem prT_bnd {a b : List Int} {n j : Int} {c : Int} (hc : c = 2) (ha : ∀ x ∈ a, 0 ≤ x ∧ x ≤ c) (hb : ∀ x ∈ b, 0 ≤ x ∧ x ≤ c) (i k : Nat) : 0 ≤ prT a b n j i k ∧ prT a b n j i k ≤ 4 := by
  have h1 := at_bnd (show 0 ≤ c by omega) ha (i : Int)
  have h2 := at_bnd (show 0 ≤ c by omega) hb (k : Int)
  subst hc
  unfold prT
  split
  · have := Int.mul_nonneg h1.1 h2.1
    have := Int.mul_le_mul h1.2 h2.2 h2.1 (by omega)
    omega
  · omega
theorem qrF_bnd {a b : List Int} (ha : ∀ x ∈ a, 0 ≤ x ∧ x ≤ 2) (hb : ∀ x ∈ b, 0 ≤ x ∧ x ≤ 2) (la : a.length ≤ 64) {i k : Nat} (hi : i ≤ 64) (hk : k ≤ 64) {j : Int} (h0 : 0 ≤ j) (h1 : j < a.length) : 0 ≤ at_ 0 (qrF a b k i) j ∧ at_ 0 (qrF a b k i) j ≤ 20000 := by
  rw [qrF_at h0 h1]
  have x1 := sumZ_bnd (f := fun i => prT a b a.length j i k) (a := 0) (b := 4) (by omega) (by omega) (fun i => prT_bnd rfl ha hb i k) i
  have x2 := sumZ_bnd (f := fun k => sumZ (fun i => prT a b a.length j i k) a.length) (a := 0) (b := 256) (by omega) (by omega) (fun k => by
    have := sumZ_bnd (f := fun i => prT a b a.length j i k) (a := 0) (b := 4) (by omega) (by omega) (fun i => prT_bnd rfl ha hb i k) a.length
    omega) k
  omega
/-- Behind the last: remainders, one after another. -/
def rmF (st : Int) (l : List Int) (i : Nat) : List Int := (l.take i).map (· % st) ++ l.drop i
theorem rmF_len (st : Int) (l : List Int) (i : Nat) : (rmF st l i).length = l.length := by simp [rmF]; omega
theorem rmF_at {st : Int} {l : List Int} {i : Nat} (h : i < l.length) : at_ 0 (rmF st l i) (i : Int) = at_ 0 l (i : Int) := by
  rw [at_eq 0 _ (by rw [rmF_len]; exact h), at_eq 0 _ h]
  unfold rmF
  rw [List.getElem_append_right (by rw [List.length_map, List.length_take]; omega)]
  simp [show min i l.length = i by omega]
theorem rmF_set {st : Int} {l : List Int} {i : Nat} (h : i < l.length) : (rmF st l i).set (i : Int).toNat (at_ 0 l (i : Int) % st) = rmF st l (i + 1) := by
  unfold rmF
  rw [Int.toNat_natCast, take_at 0 l h, List.map_append, List.set_append_right _ _ (by rw [List.length_map, List.length_take]; omega), List.append_assoc]
  congr 1
  rw [show i - (List.map (· % st) (l.take i)).length = 0 by simp; omega, List.drop_eq_getElem_cons h]
  rfl
theorem qr_pr {st : Int} (a b : List Int) : rmF st (qrF a b b.length 0) a.length = prL st a b := by
  unfold rmF
  have hl := qrF_len a b b.length 0
  rw [List.take_of_length_le (by omega), List.drop_of_length_le (by omega), List.append_nil]
  apply List.ext_getElem
  · simp [qrF, prL]
  · intro j h1 h2
    simp only [qrF, prL, List.getElem_map, List.getElem_range, sumZ, Int.add_zero]
    rw [← sumZ_swap]; rfl
/-- The digits of the number with digits. -/
theorem numA_split (b : Int) : ∀ (l : List Int) (a : Int), l.foldl (fun a d => a * b + d) a = a * b ^ l.length + numL b l
  | [], a => by simp [numL]
  | x :: l, a => by
    rw [List.foldl_cons, numA_split b l (a * b + x), List.length_cons, Int.pow_succ]
    unfold numL
    rw [List.foldl_cons, numA_split b l (0 * b + x), Int.zero_mul, Int.zero_add, Int.add_mul, Int.mul_assoc a b, Int.mul_comm b (b ^ l.length)]
    unfold numL; omega
theorem numL_cons (b : Int) (x : Int) (l : List Int) : numL b (x :: l) = x * b ^ l.length + numL b l := by
  show List.foldl _ (0 * b + x) l = _
  rw [numA_split, Int.zero_mul, Int.zero_add]
theorem digL_cons {n b x : Int} {k : Nat} (hb : 1 ≤ b) (x0 : 0 ≤ x) (x1 : x ≤ b - 1) (n0 : 0 ≤ n) (n1 : n < b ^ k) : digL (x * b ^ k + n) b (k + 1) = x :: digL n b k := by
  have hp : 0 < b ^ k := Int.pow_pos (by omega)
  apply List.ext_getElem
  · simp [digL]
  · intro j h1 h2
    simp only [digL_len] at h1
    cases j with
    | zero =>
      simp only [digL, List.getElem_map, List.getElem_range, List.getElem_cons_zero]
      rw [show k + 1 - 1 - 0 = k by omega, Int.add_comm, Int.add_mul_ediv_right _ _ (by omega), Int.ediv_eq_zero_of_lt n0 n1, Int.zero_add, Int.emod_eq_of_lt x0 (by omega)]
    | succ j =>
      simp only [digL, List.getElem_map, List.getElem_range, List.getElem_cons_succ]
      rw [show k + 1 - 1 - (j + 1) = k - 1 - j by omega]
      obtain ⟨m, hm⟩ : ∃ m, k = k - 1 - j + 1 + m := ⟨j, by omega⟩
      have e : b ^ k = b ^ (k - 1 - j) * (b * b ^ m) := by
        conv => lhs; rw [hm]
        rw [Int.pow_add, Int.pow_succ, Int.mul_assoc]
      have hq : 0 < b ^ (k - 1 - j) := Int.pow_pos (by omega)
      rw [e, show x * (b ^ (k - 1 - j) * (b * b ^ m)) + n = n + b ^ (k - 1 - j) * (b * (x * b ^ m)) by
        rw [Int.add_comm]; congr 1
        rw [Int.mul_left_comm, Int.mul_left_comm x b]]
      rw [Int.add_mul_ediv_left _ _ (by omega), Int.add_mul_emod_self_left]
theorem digL_numL {b : Int} (hb : 1 ≤ b) : ∀ {l : List Int}, (∀ x ∈ l, 0 ≤ x ∧ x ≤ b - 1) → digL (numL b l) b l.length = l
  | [], _ => rfl
  | x :: l, h => by
    have hx := h x (by simp)
    have hl := numL_bnd hb (l := l) (fun y hy => h y (by simp [hy]))
    rw [numL_cons, List.length_cons, digL_cons hb hx.1 hx.2 hl.1 hl.2, digL_numL hb (fun y hy => h y (by simp [hy]))]
/-- The cells around a cell. -/
def hdC (rc : Int) (ring : List Int) (i : Int) (t : Nat) : List Int := (List.range t).map fun (u : Nat) => at_ 0 ring ((i - rc + (u : Int)) % (ring.length : Int))
theorem hdC_len (rc : Int) (ring : List Int) (i : Int) (t : Nat) : (hdC rc ring i t).length = t := by simp [hdC]
theorem hdN_num (st rc : Int) (ring : List Int) (i : Int) : ∀ t, hdN st rc ring i t = numL st (hdC rc ring i t)
  | 0 => rfl
  | t + 1 => by
    have e : hdC rc ring i (t + 1) = hdC rc ring i t ++ [at_ 0 ring ((i - rc + (t : Int)) % (ring.length : Int))] := by simp [hdC, List.range_succ]
    rw [hdN, hdN_num st rc ring i t, e, numL_snoc]
theorem hdC_in {st rc : Int} {ring : List Int} (hr : ∀ x ∈ ring, 0 ≤ x ∧ x ≤ st - 1) (hn : 0 < ring.length) (i : Int) (t : Nat) : ∀ x ∈ hdC rc ring i t, 0 ≤ x ∧ x ≤ st - 1 := by
  intro x hx
  simp only [hdC, List.mem_map, List.mem_range] at hx
  obtain ⟨u, _, rfl⟩ := hx
  exact hr _ (at_mem 0 ring (Int.emod_nonneg _ (by omega)) (Int.emod_lt_of_pos _ (by omega)))
theorem tmL_len {st rc : Int} {T : List Int} (h : 0 ≤ rc) : ((tmL st rc T).length : Int) = 2 * rc + 1 := by
  unfold tmL; rw [tmF_len]; omega
/-- What a cell becomes by a rule that adds. -/
theorem add_td {st rc : Int} {T ring : List Int} (h : ruleP st rc T) (ha : addP st rc T) (hr : ∀ x ∈ ring, 0 ≤ x ∧ x ≤ st - 1) (hn : 0 < ring.length) (i : Int) :
    tdN st rc T ring i = sumZ (fun t => at_ 0 (tmL st rc T) (t : Int) * at_ 0 ring ((i - rc + (t : Int)) % (ring.length : Int))) (2 * rc + 1).toNat % st := by
  have hb : 1 ≤ st := by have := h.1; omega
  have hl := tmL_len (st := st) (T := T) h.2.1.1
  have hi := hdN_ix h hr hn i
  unfold tdN
  obtain ⟨m, hm⟩ := Int.eq_ofNat_of_zero_le hi.1
  have hin := hdC_in (rc := rc) hr hn i (2 * rc + 1).toNat
  have hk : (tmL st rc T).length = (2 * rc + 1).toNat := by omega
  have e1 : at_ 0 T (hdN st rc ring i (2 * rc + 1).toNat) = wgS (tmL st rc T) (digL (hdN st rc ring i (2 * rc + 1).toNat) st (tmL st rc T).length) % st := by
    have hT : at_ 0 T (m : Int) = at_ 0 (wgL st (tmL st rc T)) (m : Int) := by unfold addP at ha; rw [← ha]
    have hlt : m < (pwr st (tmL st rc T).length).toNat := by
      have := h.2.2.1
      rw [hl]; omega
    rw [hm, hT, at_eq 0 _ (by unfold wgL; rw [wgF_len]; exact hlt)]
    simp [wgL, wgF]
  rw [e1, hk, hdN_num]
  have e2 := digL_numL hb hin
  rw [hdC_len] at e2
  rw [e2]
  unfold wgS
  rw [hk]
  congr 1
  refine sumZ_congr (fun t ht => ?_)
  congr 1
  rw [at_eq 0 _ (by rw [hdC_len]; exact ht)]
  simp [hdC]
/-- The ring with a single 1. -/
def impL (n : Nat) : List Int := (List.replicate n (0 : Int)).set 0 1
theorem impL_len (n : Nat) : (impL n).length = n := by simp [impL]
theorem impL_at {n : Nat} {i : Int} (h0 : 0 ≤ i) (h : i < n) : at_ 0 (impL n) i = if i = 0 then 1 else 0 := by
  obtain ⟨m, rfl⟩ := Int.eq_ofNat_of_zero_le h0
  rw [at_eq 0 _ (by rw [impL_len]; omega)]
  simp only [impL, List.getElem_set, List.getElem_replicate]
  split <;> split <;> omega
theorem impL_in {st : Int} (h : 2 ≤ st) (n : Nat) : ∀ x ∈ impL n, 0 ≤ x ∧ x ≤ st - 1 := by
  intro x hx
  unfold impL at hx
  rcases List.mem_or_eq_of_mem_set hx with h1 | h1
  · have := List.eq_of_mem_replicate h1; omega
  · omega
/-- What the first cell gives to all cells. -/
def onF (st rc : Int) (w : List Int) (n : Nat) (t : Nat) : List Int := (List.range n).map fun (j : Nat) => sumZ (fun t => if (rc - (t : Int)) % (n : Int) = (j : Int) then at_ 0 w (t : Int) else 0) t % st
theorem onF_len (st rc : Int) (w : List Int) (n t : Nat) : (onF st rc w n t).length = n := by simp [onF]
theorem onF_zero (st rc : Int) (w : List Int) (n : Nat) : onF st rc w n 0 = List.replicate n 0 := by
  apply List.ext_getElem
  · simp [onF]
  · intro i h1 h2
    simp [onF, sumZ]
theorem onF_at {st rc : Int} {w : List Int} {n t : Nat} {j : Int} (h0 : 0 ≤ j) (h : j < n) : at_ 0 (onF st rc w n t) j = sumZ (fun t => if (rc - (t : Int)) % (n : Int) = j then at_ 0 w (t : Int) else 0) t % st := by
  obtain ⟨m, rfl⟩ := Int.eq_ofNat_of_zero_le h0
  rw [at_eq 0 _ (by rw [onF_len]; omega)]
  simp [onF]
theorem onF_set {st rc : Int} {w : List Int} {n t : Nat} {j : Int} (hj : j = (rc - (t : Int)) % (n : Int)) (h0 : 0 ≤ j) (h1 : j < n) : (onF st rc w n t).set j.toNat ((at_ 0 (onF st rc w n t) j + at_ 0 w (t : Int)) % st) = onF st rc w n (t + 1) := by
  rw [onF_at h0 h1]
  apply List.ext_getElem
  · simp [onF]
  · intro m g1 g2
    rw [onF_len] at g2
    simp only [List.getElem_set, onF, List.getElem_map, List.getElem_range, sumZ]
    by_cases e : j.toNat = m
    · rw [if_pos e]
      have : j = (m : Int) := by omega
      subst this
      rw [Int.emod_add_emod, if_pos hj.symm]
    · rw [if_neg e, if_neg (by omega), Int.add_zero]
theorem on_imp {st rc : Int} {T : List Int} {n : Nat} (h : ruleP st rc T) (ha : addP st rc T) (hn : 0 < n) : stpL st rc T (impL n) = onF st rc (tmL st rc T) n (2 * rc + 1).toNat := by
  have hb : 2 ≤ st := by have := h.1; omega
  apply List.ext_getElem
  · rw [stpL_len, impL_len, onF_len]
  · intro j h1 h2
    rw [onF_len] at h2
    have e : (stpL st rc T (impL n))[j] = tdN st rc T (impL n) j := by simp [stpL, stpF]
    rw [e, add_td h ha (impL_in hb n) (by rw [impL_len]; exact hn)]
    simp only [onF, List.getElem_map, List.getElem_range]
    congr 1
    refine sumZ_congr (fun t ht => ?_)
    rw [impL_len, impL_at (Int.emod_nonneg _ (by omega)) (Int.emod_lt_of_pos _ (by omega))]
    have key : ((j : Int) - rc + (t : Int)) % (n : Int) = 0 ↔ (rc - (t : Int)) % (n : Int) = (j : Int) := by
      have hj : (j : Int) % (n : Int) = j := Int.emod_eq_of_lt (by omega) (by omega)
      constructor
      · intro g
        have := Int.emod_eq_emod_iff_emod_sub_eq_zero (m := (j : Int)) (n := (n : Int)) (k := rc - (t : Int))
        rw [show (j : Int) - (rc - (t : Int)) = (j : Int) - rc + (t : Int) by omega] at this
        rw [← this.mpr g, hj]
      · intro g
        have := (Int.emod_eq_emod_iff_emod_sub_eq_zero (m := (j : Int)) (n := (n : Int)) (k := rc - (t : Int))).mp (by rw [hj, g])
        rw [show (j : Int) - rc + (t : Int) = (j : Int) - (rc - (t : Int)) by omega]; exact this
    by_cases g : (rc - (t : Int)) % (n : Int) = (j : Int)
    · rw [if_pos g, if_pos (key.mpr g), Int.mul_one]
    · rw [if_neg g, if_neg (fun q => g (key.mp q)), Int.mul_zero]
/-- Products, by the digits of a number of times. -/
def faS (st : Int) (l b : List Int) (m : Int) : Nat → List Int × List Int
  | 0 => (l, b)
  | i + 1 => (if m / 2 ^ i % 2 = 1 then prL st (faS st l b m i).1 (faS st l b m i).2 else (faS st l b m i).1, prL st (faS st l b m i).2 (faS st l b m i).2)
def faR (st : Int) (l b : List Int) (m : Int) : List Int := (faS st l b m 41).1
section
variable {st : Int} {l b : List Int} {m : Int}
theorem faS_odd {i : Nat} (h : m / 2 ^ i % 2 = 1) : prL st (faS st l b m i).1 (faS st l b m i).2 = (faS st l b m (i + 1)).1 := by
  rw [faS]; simp only; rw [if_pos h]
theorem faS_even {i : Nat} (h : ¬ m / 2 ^ i % 2 = 1) : (faS st l b m i).1 = (faS st l b m (i + 1)).1 := by
  conv => rhs; rw [faS]
  simp only; rw [if_neg h]
theorem faS_len (h : b.length = l.length) : ∀ i, (faS st l b m i).1.length = l.length ∧ (faS st l b m i).2.length = l.length
  | 0 => ⟨rfl, h⟩
  | i + 1 => by
    have ih := faS_len h i
    rw [faS]
    simp only [prL_len]
    refine ⟨?_, ih.2⟩
    split
    · rw [prL_len]; exact ih.1
    · exact ih.1
theorem faS_in (hs : 1 ≤ st) (hl : ∀ x ∈ l, 0 ≤ x ∧ x ≤ st - 1) (hb : ∀ x ∈ b, 0 ≤ x ∧ x ≤ st - 1) : ∀ i, (∀ x ∈ (faS st l b m i).1, 0 ≤ x ∧ x ≤ st - 1) ∧ ∀ x ∈ (faS st l b m i).2, 0 ≤ x ∧ x ≤ st - 1
  | 0 => ⟨hl, hb⟩
  | i + 1 => by
    have ih := faS_in hs hl hb i
    rw [faS]
    refine ⟨?_, prL_in _ _ hs⟩
    show ∀ x ∈ (if m / 2 ^ i % 2 = 1 then prL st (faS st l b m i).1 (faS st l b m i).2 else (faS st l b m i).1), 0 ≤ x ∧ x ≤ st - 1
    split
    · exact prL_in _ _ hs
    · exact ih.1
theorem div2_zero (h0 : 0 ≤ m) {i j : Nat} (h : ¬ 0 < m / 2 ^ i) (hij : i ≤ j) : m / 2 ^ j = 0 := by
  have h1 : m / 2 ^ i = 0 := by
    have := (div_pow_bnd (b := 2) h0 (by omega) i).1
    omega
  obtain ⟨k, rfl⟩ := Nat.exists_eq_add_of_le hij
  rw [Int.pow_add, ← Int.ediv_ediv_of_nonneg (Int.pow_nonneg (by omega)), h1, Int.zero_ediv]
theorem faS_stay (h0 : 0 ≤ m) {i : Nat} (h : ¬ 0 < m / 2 ^ i) : ∀ k, (faS st l b m (i + k)).1 = (faS st l b m i).1
  | 0 => rfl
  | k + 1 => by
    have := div2_zero h0 h (j := i + k) (by omega)
    rw [show i + (k + 1) = i + k + 1 by omega, ← faS_even (by rw [this]; decide), faS_stay h0 h k]
theorem faS_end (h0 : 0 ≤ m) {i : Nat} (hi : i ≤ 41) (h : ¬ 0 < m / 2 ^ i) : (faS st l b m i).1 = faR st l b m := by
  have := faS_stay (st := st) (l := l) (b := b) h0 h (41 - i)
  rw [show i + (41 - i) = 41 by omega] at this
  exact this.symm
theorem div2_lt (h0 : 0 ≤ m) (h1 : m ≤ 1000000000000) {i : Nat} (h : 0 < m / 2 ^ i) : i < 41 := by
  refine Nat.lt_of_not_le (fun hi => ?_)
  have e40 : (2 : Int) ^ 40 = 1099511627776 := by decide
  have : m / 2 ^ 40 = 0 := Int.ediv_eq_zero_of_lt h0 (by omega)
  have h2 := div2_zero h0 (i := 40) (j := i) (by omega) (by omega)
  omega
end
/-- Going far ahead. -/
def farP (st rc : Int) (T l : List Int) (m : Int) : Prop := ruleP st rc T ∧ ringP st l ∧ 2 * rc + 1 ≤ (l.length : Int) ∧ addP st rc T ∧ 0 ≤ m ∧ m ≤ 1000000000000
instance (st rc : Int) (T l : List Int) (m : Int) : Decidable (farP st rc T l m) := by unfold farP; infer_instance
def farL (st rc : Int) (T l : List Int) (m : Int) : List Int := faR st l (stpL st rc T (impL l.length)) m
theorem farP_len {st rc : Int} {T l : List Int} {m : Int} : (selL (farP st rc T l m) (farL st rc T l m)).length ≤ 64 := selL_len fun h => by
  have := h.2.1.2.2
  unfold farL faR
  rw [(faS_len (by rw [stpL_len, impL_len]) 41).1]; omega
theorem add_of {st rc : Int} {T : List Int} (hr : ruleP st rc T) (h : ∀ j : Nat, j < T.length → at_ 0 T (j : Int) = wgS (tmL st rc T) (digL j st (2 * rc + 1).toNat) % st) : addP st rc T := by
  have hl := tmL_len (st := st) (T := T) hr.2.1.1
  have hT := hr.2.2.1
  unfold addP
  apply List.ext_getElem
  · unfold wgL; rw [wgF_len, hl]; omega
  · intro j h1 h2
    have := h j h1
    rw [at_eq 0 _ h1] at this
    rw [this]
    simp only [wgL, wgF, List.getElem_map, List.getElem_range]
    rw [show (tmL st rc T).length = (2 * rc + 1).toNat by omega]
theorem add_not {st rc : Int} {T : List Int} (hr : ruleP st rc T) {j : Nat} (hj : j < T.length) (h : wgS (tmL st rc T) (digL j st (2 * rc + 1).toNat) % st ≠ at_ 0 T (j : Int)) : ¬ addP st rc T := by
  intro ha
  have hl := tmL_len (st := st) (T := T) hr.2.1.1
  have hT := hr.2.2.1
  apply h
  have e : at_ 0 T (j : Int) = at_ 0 (wgL st (tmL st rc T)) (j : Int) := by unfold addP at ha; rw [← ha]
  rw [e, at_eq 0 _ (by unfold wgL; rw [wgF_len, hl]; omega)]
  simp only [wgL, wgF, List.getElem_map, List.getElem_range]
  rw [show (tmL st rc T).length = (2 * rc + 1).toNat by omega]
theorem wg_bnd {w l : List Int} (hw : ∀ x ∈ w, 0 ≤ x ∧ x ≤ 2) (hl : ∀ x ∈ l, 0 ≤ x ∧ x ≤ 2) (i : Nat) : 0 ≤ at_ 0 w (i : Int) * at_ 0 l (i : Int) ∧ at_ 0 w (i : Int) * at_ 0 l (i : Int) ≤ 4 := by
  have h1 := at_bnd (by omega) hw (i : Int)
  have h2 := at_bnd (by omega) hl (i : Int)
  have := Int.mul_nonneg h1.1 h2.1
  have := Int.mul_le_mul h1.2 h2.2 h2.1 (by omega)
  omega
theorem in_two {st : Int} (h : st ≤ 3) {l : List Int} (hl : ∀ x ∈ l, 0 ≤ x ∧ x ≤ st - 1) : ∀ x ∈ l, 0 ≤ x ∧ x ≤ 2 := fun x hx => by have := hl x hx; omega
end Go.Proofs.Ytelcmohhjkgjoaa
