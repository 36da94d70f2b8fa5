/- Steps again and again: what comes again, and how far a rule that adds can go at once. -/
import Derived.Test.YtelcmohhjkgjoaaRG
import Derived.Test.YtelcmohhjkgjoaaKR
namespace Go.Proofs.Ytelcmohhjkgjoaa
open HL
set_option maxRecDepth 100000
/-- The first number, from one on, that has something. -/
def frst (p : Nat → Bool) : Nat → Nat → Nat
  | a, 0 => a
  | a, f + 1 => if p a = true then a else frst p (a + 1) f
theorem frst_at {p : Nat → Bool} : ∀ {f a m : Nat}, (∀ j, a ≤ j → j < m → p j = false) → p m = true → a ≤ m → m ≤ a + f → frst p a f = m
  | 0, a, m, _, _, h1, h2 => by unfold frst; omega
  | f + 1, a, m, h, hp, h1, h2 => by
    unfold frst
    by_cases e : a = m
    · subst e; rw [if_pos hp]
    · rw [if_neg (by rw [h a (by omega) (by omega)]; simp)]
      exact frst_at (fun j hj hm => h j (by omega) hm) hp (by omega) (by omega)
section
variable {G : Nat → List Int} {k i : Nat}
/-- Something alike was there before. -/
def dupP (G : Nat → List Int) (k : Nat) : Prop := ∃ i, i < k ∧ G i = G k
instance (G : Nat → List Int) (k : Nat) : Decidable (dupP G k) := by unfold dupP; infer_instance
def fsI (G : Nat → List Int) (k : Nat) : Nat := frst (fun i => decide (G i = G k)) 0 k
def ftK (G : Nat → List Int) (n : Nat) : Nat := frst (fun k => decide (dupP G k)) 0 n
def perP (G : Nat → List Int) (n : Nat) : Prop := ∃ k, k ≤ n ∧ dupP G k
instance (G : Nat → List Int) (n : Nat) : Decidable (perP G n) := decidable_of_iff (∃ k, k < n + 1 ∧ dupP G k) ⟨fun ⟨k, h1, h2⟩ => ⟨k, by omega, h2⟩, fun ⟨k, h1, h2⟩ => ⟨k, by omega, h2⟩⟩
theorem per_at {n : Nat} (hd : ∀ j, j < k → ¬ dupP G j) (hi : i < k) (he : G i = G k) (hf : ∀ j, j < i → G j ≠ G k) (hn : k ≤ n) : perP G n ∧ ftK G n = k ∧ fsI G (ftK G n) = i := by
  have h1 : ftK G n = k := frst_at (fun j _ hj => decide_eq_false (hd j hj)) (decide_eq_true ⟨i, hi, he⟩) (Nat.zero_le _) (by omega)
  refine ⟨⟨k, hn, i, hi, he⟩, h1, ?_⟩
  rw [h1]
  exact frst_at (fun j _ hj => decide_eq_false (hf j hj)) (decide_eq_true he) (Nat.zero_le _) (by omega)
theorem per_no {n : Nat} (hd : ∀ j, j ≤ n → ¬ dupP G j) : ¬ perP G n := fun ⟨k, h1, h2⟩ => hd k h1 h2
theorem dup_no (h : ∀ j, j < k → G j ≠ G k) : ¬ dupP G k := fun ⟨i, h1, h2⟩ => h i h1 h2
/-- The keys so far. -/
def mapG (G : Nat → List Int) (n : Nat) : List (ByteArray × Int) := (List.range n).map fun i => (bytesS .empty (G i), (i : Int))
theorem mapG_succ {n : Nat} : mapG G n ++ [(bytesS .empty (G n), (n : Int))] = mapG G (n + 1) := by simp [mapG, List.range_succ]
theorem mget_skip {x : ByteArray} : ∀ {ms ns : List (ByteArray × Int)}, (∀ m ∈ ms, x ≠ m.1) → mget x (ms ++ ns) = mget x ns
  | [], _, _ => rfl
  | m :: ms, ns, h => by
    show (bif x == m.1 then some m.2 else mget x (ms ++ ns)) = _
    rw [beq_bytes, decide_eq_false (h m (by simp)), cond_false]
    exact mget_skip (fun y hy => h y (by simp [hy]))
theorem range_split {n i : Nat} (h : i < n) : List.range n = List.range i ++ i :: (List.range (n - i - 1)).map (fun j => i + 1 + j) := by
  apply List.ext_getElem
  · simp; omega
  · intro j h1 h2
    simp only [List.length_range] at h1
    rw [List.getElem_range]
    by_cases g : j < i
    · rw [List.getElem_append_left (by simpa using g)]; simp
    · rw [List.getElem_append_right (by simpa using g)]
      simp only [List.length_range]
      by_cases e : j = i
      · subst e; simp
      · obtain ⟨d, rfl⟩ : ∃ d, j = i + 1 + d := ⟨j - i - 1, by omega⟩
        have e2 : i + 1 + d - i = d + 1 := by omega
        simp only [e2, List.getElem_cons_succ, List.getElem_map, List.getElem_range]
theorem mget_at {n i k : Nat} (hb : ∀ j, ∀ x ∈ G j, 0 ≤ x ∧ x ≤ 255) (hi : i < n) (he : G i = G k) (hf : ∀ j, j < i → G j ≠ G k) : mget (bytesS .empty (G k)) (mapG G n) = some (i : Int) := by
  unfold mapG
  rw [range_split hi, List.map_append, List.map_cons, mget_skip (fun m hm => by
    simp only [List.mem_map, List.mem_range] at hm
    obtain ⟨j, hj, rfl⟩ := hm
    intro h
    exact hf j hj (bytesS_inj (hb k) (hb j) h).symm)]
  show (bif bytesS .empty (G k) == bytesS .empty (G i) then some (i : Int) else _) = _
  rw [he, beq_bytes, decide_eq_true rfl, cond_true]
theorem mget_none {n k : Nat} (hb : ∀ j, ∀ x ∈ G j, 0 ≤ x ∧ x ≤ 255) (hf : ∀ j, j < n → G j ≠ G k) : mget (bytesS .empty (G k)) (mapG G n) = none := by
  have := mget_skip (x := bytesS .empty (G k)) (ms := mapG G n) (ns := []) (fun m hm => by
    simp only [mapG, List.mem_map, List.mem_range] at hm
    obtain ⟨j, hj, rfl⟩ := hm
    intro h
    exact hf j hj (bytesS_inj (hb k) (hb j) h).symm)
  rw [List.append_nil] at this
  exact this
theorem mget_some {n k : Nat} (hb : ∀ j, ∀ x ∈ G j, 0 ≤ x ∧ x ≤ 255) (h : (mget (bytesS .empty (G k)) (mapG G n)).isSome = true) : ∃ i, i < n ∧ G i = G k ∧ (∀ j, j < i → G j ≠ G k) ∧ (mget (bytesS .empty (G k)) (mapG G n)).getD 0 = (i : Int) := by
  by_cases hd : ∃ i, i < n ∧ G i = G k
  · have key : ∀ m, m ≤ n → (∀ j, j < m → G j ≠ G k) ∨ ∃ i, i < m ∧ G i = G k ∧ ∀ j, j < i → G j ≠ G k := by
      intro m
      induction m with
      | zero => intro _; exact .inl (fun j hj => by omega)
      | succ m ih =>
        intro hm
        rcases ih (by omega) with h1 | ⟨i, h1, h2, h3⟩
        · by_cases e : G m = G k
          · exact .inr ⟨m, by omega, e, h1⟩
          · exact .inl (fun j hj => by
              by_cases ej : j = m
              · subst ej; exact e
              · exact h1 j (by omega))
        · exact .inr ⟨i, by omega, h2, h3⟩
    rcases key n (Nat.le_refl _) with h1 | ⟨i, h1, h2, h3⟩
    · obtain ⟨i, h2, h3⟩ := hd
      exact absurd h3 (h1 i h2)
    · exact ⟨i, h1, h2, h3, by rw [mget_at hb h1 h2 h3]; rfl⟩
  · rw [mget_none hb (fun j hj e => hd ⟨j, hj, e⟩)] at h
    simp at h
theorem mget_not {n k : Nat} (hb : ∀ j, ∀ x ∈ G j, 0 ≤ x ∧ x ≤ 255) (h : (mget (bytesS .empty (G k)) (mapG G n)).isSome = false) : (∀ j, j < n → G j ≠ G k) ∧ mget (bytesS .empty (G k)) (mapG G n) = none := by
  have h2 : mget (bytesS .empty (G k)) (mapG G n) = none := by
    cases hm : mget (bytesS .empty (G k)) (mapG G n) with
    | none => rfl
    | some x => rw [hm] at h; simp at h
  refine ⟨fun j hj e => ?_, h2⟩
  have key : ∀ m, m ≤ j → (∀ i, i < m → G i ≠ G k) ∨ ∃ i, i < n ∧ G i = G k ∧ ∀ l, l < i → G l ≠ G k := by
    intro m
    induction m with
    | zero => intro _; exact .inl (fun i hi => by omega)
    | succ m ih =>
      intro hm
      rcases ih (by omega) with h1 | h1
      · by_cases e : G m = G k
        · exact .inr ⟨m, by omega, e, h1⟩
        · exact .inl (fun i hi => by
            by_cases ei : i = m
            · subst ei; exact e
            · exact h1 i (by omega))
      · exact .inr h1
  rcases key j (Nat.le_refl _) with h1 | ⟨i, h1, h3, h4⟩
  · rw [mget_at hb hj e h1] at h2; simp at h2
  · rw [mget_at hb h1 h3 h4] at h2; simp at h2
end
theorem frst_spec {p : Nat → Bool} : ∀ {f a m : Nat}, p m = true → a ≤ m → m ≤ a + f → p (frst p a f) = true ∧ frst p a f ≤ m
  | 0, a, m, hp, h1, h2 => by
    unfold frst
    obtain rfl : a = m := by omega
    exact ⟨hp, Nat.le_refl _⟩
  | f + 1, a, m, hp, h1, h2 => by
    unfold frst
    by_cases c : p a = true
    · rw [if_pos c]; exact ⟨c, h1⟩
    · rw [if_neg c]
      refine frst_spec hp ?_ (by omega)
      by_cases e : a = m
      · subst e; exact absurd hp c
      · omega
theorem per_facts {G : Nat → List Int} {n : Nat} (h : perP G n) : fsI G (ftK G n) < ftK G n ∧ G (fsI G (ftK G n)) = G (ftK G n) ∧ ftK G n ≤ n := by
  obtain ⟨k, hk, hd⟩ := h
  obtain ⟨h1, h2⟩ := frst_spec (p := fun k => decide (dupP G k)) (f := n) (a := 0) (decide_eq_true hd) (by omega) (by omega)
  have h1 : dupP G (ftK G n) := of_decide_eq_true h1
  have h2 : ftK G n ≤ k := h2
  obtain ⟨i, hi, he⟩ := h1
  obtain ⟨h3, h4⟩ := frst_spec (p := fun j => decide (G j = G (ftK G n))) (f := ftK G n) (a := 0) (m := i) (decide_eq_true he) (by omega) (by omega)
  exact ⟨Nat.lt_of_le_of_lt h4 hi, of_decide_eq_true h3, Nat.le_trans h2 hk⟩
section
variable {s : Nat → List Int} {F : List Int → List Int}
theorem seq_shift (hs : ∀ k, s (k + 1) = F (s k)) {i j : Nat} (h : s i = s j) : ∀ k, s (i + k) = s (j + k)
  | 0 => h
  | k + 1 => by rw [← Nat.add_assoc, ← Nat.add_assoc, hs, hs, seq_shift hs h k]
theorem seq_per (hs : ∀ k, s (k + 1) = F (s k)) {a p : Nat} (h : s (a + p) = s a) {x : Nat} (hx : a ≤ x) : ∀ m : Nat, s (x + m * p) = s x
  | 0 => by simp
  | m + 1 => by
    have ih := seq_per hs h hx m
    have := seq_shift hs h (x - a + m * p)
    rw [show a + p + (x - a + m * p) = x + (m + 1) * p by rw [Nat.add_mul, Nat.one_mul]; omega, show a + (x - a + m * p) = x + m * p by omega] at this
    rw [this, ih]
/-- What is there twice has the least period behind it. -/
theorem seq_min (hs : ∀ k, s (k + 1) = F (s k)) {a p : Nat} (hp : 1 ≤ p) (hc : s (a + p) = s a) (hm : ∀ q, 1 ≤ q → q < p → s (a + q) ≠ s a) {i n : Nat} (hi : i < n) (he : s i = s n) : s (i + p) = s i ∧ p ≤ n - i := by
  have hq : s (i + (n - i)) = s i := by rw [show i + (n - i) = n by omega]; exact he.symm
  have h1 := seq_per hs hq (x := a + i) (by omega) 1
  have hr : (n - i) % p = 0 := by
    by_cases r0 : (n - i) % p = 0
    · exact r0
    · exfalso
      have hlt := Nat.mod_lt (n - i) (show p > 0 by omega)
      have hd := Nat.div_add_mod (n - i) p
      have h2 := seq_per hs hc (x := a + i + (n - i) % p) (by omega) ((n - i) / p)
      rw [Nat.mul_comm] at h2
      rw [show a + i + (n - i) % p + p * ((n - i) / p) = a + i + 1 * (n - i) by omega, h1] at h2
      have h3 := seq_shift hs h2 (i * p + p - i)
      have hip : i ≤ i * p := Nat.le_mul_of_pos_right i (by omega)
      rw [show a + i + (i * p + p - i) = a + (i + 1) * p by rw [Nat.add_mul, Nat.one_mul]; omega, show a + i + (n - i) % p + (i * p + p - i) = a + (n - i) % p + (i + 1) * p by rw [Nat.add_mul, Nat.one_mul]; omega, seq_per hs hc (Nat.le_refl a), seq_per hs hc (x := a + (n - i) % p) (by omega)] at h3
      exact hm _ (by omega) hlt h3.symm
  have hd := Nat.div_add_mod (n - i) p
  have hle : p ≤ n - i := by
    cases e : (n - i) / p with
    | zero => rw [e, hr] at hd; omega
    | succ m => rw [e, hr, Nat.mul_add, Nat.mul_one] at hd; omega
  refine ⟨?_, hle⟩
  have e1 := seq_per hs hq (x := i + p) (by omega) a
  have e2 := seq_per hs hq (x := i) (by omega) a
  have haq : a ≤ a * (n - i) := Nat.le_mul_of_pos_right a (by omega)
  have e3 := seq_per hs hc (x := i + a * (n - i)) (by omega) 1
  rw [show i + a * (n - i) + 1 * p = i + p + a * (n - i) by omega, e1, e2] at e3
  exact e3
theorem brent_end (hs : ∀ k, s (k + 1) = F (s k)) {a p f : Nat} (hp : 1 ≤ p) (hc : s (a + p) = s a) (hm : ∀ q, 1 ≤ q → q < p → s (a + q) ≠ s a) (hf : s (f + p) = s f) (hff : ∀ g, g < f → s (g + p) ≠ s g) :
    (∀ j, j < f + p → ¬ dupP s j) ∧ f < f + p ∧ s f = s (f + p) ∧ ∀ j, j < f → s j ≠ s (f + p) := by
  refine ⟨fun j hj ⟨i, hi, he⟩ => ?_, by omega, hf.symm, fun j hj he => ?_⟩
  · obtain ⟨h1, h2⟩ := seq_min hs hp hc hm hi he
    by_cases c : i < f
    · exact hff i c h1
    · omega
  · exact hff j hj (seq_min hs hp hc hm (show j < f + p by omega) he).1
theorem brent_stop (hs : ∀ k, s (k + 1) = F (s k)) {a p most : Nat} (hpa : p ≤ a + 1) (ht : 4 * most + 8 < a + p) (hm : ∀ q, 1 ≤ q → q < p → s (a + q) ≠ s a) (hb : 0 < a → ∀ q, 1 ≤ q → q ≤ (a + 1) / 2 → s ((a - 1) / 2 + q) ≠ s ((a - 1) / 2)) : ∀ j, j ≤ most → ¬ dupP s j := by
  rintro j hj ⟨i, hi, he⟩
  have hq : s (i + (j - i)) = s i := by rw [show i + (j - i) = j by omega]; exact he.symm
  by_cases c : j - i < p
  · have := seq_per hs hq (x := a) (by omega) 1
    rw [Nat.one_mul] at this
    exact hm _ (by omega) c this
  · have := seq_per hs hq (x := (a - 1) / 2) (by omega) 1
    rw [Nat.one_mul] at this
    exact hb (by omega) _ (by omega) (by omega) this
end
/-- The digits of a power: a single one. -/
theorem dig_pow {b : Int} (hb : 2 ≤ b) {k j : Nat} (hj : j < k) : digL (b ^ (k - 1 - j)) b k = (List.range k).map fun (t : Nat) => if t = j then 1 else 0 := by
  unfold digL
  apply List.map_congr_left
  intro t ht
  have ht := List.mem_range.mp ht
  by_cases h : t = j
  · subst h
    rw [if_pos rfl, Int.ediv_self (by have := Int.pow_pos (n := b) (m := k - 1 - t) (by omega); omega)]
    exact Int.emod_eq_of_lt (by omega) (by omega)
  · rw [if_neg h]
    by_cases h2 : t < j
    · rw [Int.ediv_eq_zero_of_lt (Int.pow_nonneg (by omega)) (Int.pow_lt_pow_of_lt (by omega) (by omega))]; rfl
    · have e : k - 1 - j = (k - 1 - t) + ((t - j - 1) + 1) := by omega
      rw [e, Int.pow_add, Int.mul_ediv_cancel_left _ (by have := Int.pow_pos (n := b) (m := k - 1 - t) (by omega); omega), Int.pow_succ]
      exact Int.mul_emod_left _ _
theorem wgL_at {st : Int} {w : List Int} {h : Nat} (hh : h < (pwr st w.length).toNat) : at_ 0 (wgL st w) (h : Int) = wgS w (digL (h : Int) st w.length) % st := by
  rw [at_eq 0 _ (by unfold wgL; rw [wgF_len]; exact hh)]
  simp [wgL, wgF]
theorem wgL_len {st : Int} {w : List Int} (h : 1 ≤ st) : ((wgL st w).length : Int) = pwr st w.length := by
  unfold wgL; rw [wgF_len]
  have : 0 ≤ pwr st w.length := Int.pow_nonneg (by omega)
  omega
theorem sumZ_one {f : Nat → Int} {j : Nat} : ∀ {n : Nat}, j < n → (∀ i, i < n → i ≠ j → f i = 0) → sumZ f n = f j
  | 0, h, _ => by omega
  | n + 1, h, hz => by
    by_cases e : j = n
    · subst e
      show sumZ f j + f j = f j
      rw [sumZ_zero (fun i hi => hz i (by omega) (by omega))]; omega
    · show sumZ f n + f n = f j
      rw [sumZ_one (by omega) (fun i hi hn => hz i (by omega) hn), hz n (by omega) (by omega)]; omega
theorem wg_rule {st rc : Int} {w : List Int} (hs : st = 2 ∨ st = 3) (hr : 0 ≤ rc ∧ rc ≤ 2) (hl : (w.length : Int) = 2 * rc + 1) : ruleP st rc (wgL st w) := by
  refine ⟨hs, hr, by rw [wgL_len (by omega), hl], fun x hx => ?_⟩
  simp only [wgL, wgF, List.mem_map, List.mem_range] at hx
  obtain ⟨h, _, rfl⟩ := hx
  have := Int.emod_nonneg (wgS w (digL (h : Int) st w.length)) (b := st) (by omega)
  have := Int.emod_lt_of_pos (wgS w (digL (h : Int) st w.length)) (b := st) (by omega)
  omega
theorem add_wg {st rc : Int} {w : List Int} (hs : st = 2 ∨ st = 3) (hr : 0 ≤ rc ∧ rc ≤ 2) (hl : (w.length : Int) = 2 * rc + 1) (hw : ∀ x ∈ w, 0 ≤ x ∧ x ≤ st - 1) : addP st rc (wgL st w) := by
  have hR := wg_rule hs hr hl
  have e : tmL st rc (wgL st w) = w := by
    apply List.ext_getElem
    · unfold tmL; rw [tmF_len]; omega
    · intro j h1 h2
      have hj : j < w.length := h2
      simp only [tmL, tmF, List.getElem_map, List.getElem_range]
      have hp := pwr_lt hR (j := 2 * rc - (j : Int)) (by omega) (by omega)
      have ep : pwr st (2 * rc - (j : Int)) = st ^ (w.length - 1 - j) := by unfold pwr; rw [show (2 * rc - (j : Int)).toNat = w.length - 1 - j by omega]
      obtain ⟨m, hm⟩ := Int.eq_ofNat_of_zero_le hp.1
      have hwl := wgL_len (w := w) (show 1 ≤ st by omega)
      rw [hm, wgL_at (by omega), ← hm, ep, dig_pow (by omega) hj]
      unfold wgS
      rw [sumZ_one (j := j) hj (fun i hi hn => by
        rw [at_eq 0 ((List.range w.length).map _) (by simpa using hi)]
        simp [hn])]
      rw [at_eq 0 ((List.range w.length).map _) (by simpa using hj), at_eq 0 w hj]
      simp only [List.getElem_map, List.getElem_range, if_true, Int.mul_one]
      have := hw _ (List.getElem_mem hj)
      exact Int.emod_eq_of_lt this.1 (by omega)
  unfold addP
  rw [e]
/-- The ring behind some steps. -/
def itL (st rc : Int) (T l : List Int) : Nat → List Int
  | 0 => l
  | n + 1 => stpL st rc T (itL st rc T l n)
theorem itL_ring {st rc : Int} {T l : List Int} (h : ruleP st rc T) (hl : ringP st l) : ∀ n, ringP st (itL st rc T l n)
  | 0 => hl
  | n + 1 => stpL_ring h (itL_ring h hl n)
theorem itL_len {st rc : Int} {T l : List Int} : ∀ n, (itL st rc T l n).length = l.length
  | 0 => rfl
  | n + 1 => by rw [itL, stpL_len, itL_len n]
theorem itL_add {st rc : Int} {T l : List Int} (m : Nat) : ∀ n, itL st rc T l (m + n) = itL st rc T (itL st rc T l m) n
  | 0 => rfl
  | n + 1 => by rw [← Nat.add_assoc, itL, itL_add m n]; rfl
/-- A product, cell by cell. -/
theorem sumZ_one' {f : Nat → Int} {j : Nat} : ∀ {n : Nat}, j < n → (∀ i, i < n → i ≠ j → f i = 0) → sumZ f n = f j
  | 0, h, _ => by omega
  | n + 1, h, hz => by
    by_cases e : j = n
    · subst e
      show sumZ f j + f j = f j
      rw [sumZ_zero (fun i hi => hz i (by omega) (by omega))]; omega
    · show sumZ f n + f n = f j
      rw [sumZ_one' (by omega) (fun i hi hn => hz i (by omega) hn), hz n (by omega) (by omega)]; omega
theorem sumZ_mod' {f g : Nat → Int} {st : Int} : ∀ n : Nat, (∀ i, i < n → f i % st = g i % st) → sumZ f n % st = sumZ g n % st
  | 0, _ => rfl
  | n + 1, h => by
    show (sumZ f n + f n) % st = (sumZ g n + g n) % st
    rw [Int.add_emod, sumZ_mod' n (fun i hi => h i (by omega)), h n (by omega), ← Int.add_emod]
theorem sumZ_mul {f : Nat → Int} {c : Int} : ∀ n : Nat, c * sumZ f n = sumZ (fun i => c * f i) n
  | 0 => by simp [sumZ]
  | n + 1 => by rw [sumZ, sumZ, Int.mul_add, sumZ_mul n]
theorem prL_at {st : Int} {a b : List Int} {j : Int} (hl : b.length = a.length) (h0 : 0 ≤ j) (h1 : j < a.length) : at_ 0 (prL st a b) j = sumZ (fun i => at_ 0 a (i : Int) * at_ 0 b ((j - (i : Int)) % (a.length : Int))) a.length % st := by
  obtain ⟨m, rfl⟩ := Int.eq_ofNat_of_zero_le h0
  rw [at_eq 0 _ (by rw [prL_len]; omega)]
  simp only [prL, List.getElem_map, List.getElem_range]
  congr 1
  refine sumZ_congr (fun i hi => ?_)
  have e0 := Int.emod_nonneg ((m : Int) - (i : Int)) (b := (a.length : Int)) (by omega)
  have e1 := Int.emod_lt_of_pos ((m : Int) - (i : Int)) (b := (a.length : Int)) (by omega)
  obtain ⟨q, hq⟩ := Int.eq_ofNat_of_zero_le e0
  have hm : (m : Int) % (a.length : Int) = m := Int.emod_eq_of_lt (by omega) (by omega)
  unfold prS
  rw [hl, sumZ_one' (j := q) (by omega) (fun k hk hn => by
    unfold prT
    rw [if_neg (fun g => hn ?_)]
    have : (k : Int) % (a.length : Int) = k := Int.emod_eq_of_lt (by omega) (by omega)
    have h2 : ((i : Int) + (k : Int) - (i : Int)) % (a.length : Int) = ((m : Int) - (i : Int)) % (a.length : Int) := by rw [Int.sub_emod, g, ← hm, ← Int.sub_emod, hm]
    rw [show (i : Int) + (k : Int) - (i : Int) = (k : Int) by omega, this, hq] at h2
    omega)]
  unfold prT
  rw [if_pos (by rw [← hq, Int.add_emod_emod, show (i : Int) + ((m : Int) - (i : Int)) = m by omega]; exact hm), hq]
theorem prL_imp {st : Int} {l : List Int} (hl : ringP st l) : prL st l (impL l.length) = l := by
  have l0 := hl.2
  apply List.ext_getElem
  · rw [prL_len]
  · intro j h1 h2
    have e : (prL st l (impL l.length))[j] = at_ 0 (prL st l (impL l.length)) (j : Int) := (at_eq 0 _ h1).symm
    have hj : (j : Int) % (l.length : Int) = j := Int.emod_eq_of_lt (by omega) (by omega)
    have hx := hl.1 _ (List.getElem_mem h2)
    rw [e, prL_at (impL_len _) (by omega) (by omega), sumZ_one' (j := j) h2 (fun i hi hn => by
      rw [impL_at (Int.emod_nonneg _ (by omega)) (Int.emod_lt_of_pos _ (by omega)), if_neg (fun g => hn ?_), Int.mul_zero]
      have hii : (i : Int) % (l.length : Int) = i := Int.emod_eq_of_lt (by omega) (by omega)
      have := (Int.emod_eq_emod_iff_emod_sub_eq_zero (m := (j : Int)) (n := (l.length : Int)) (k := (i : Int))).mpr g
      rw [hj, hii] at this; omega)]
    rw [show (j : Int) - (j : Int) = 0 by omega, Int.zero_emod, impL_at (by omega) (by omega), if_pos rfl, Int.mul_one, at_eq 0 _ h2]
    exact Int.emod_eq_of_lt hx.1 (by omega)
theorem prL_step {st rc : Int} {T x y : List Int} (h : ruleP st rc T) (ha : addP st rc T) (hx : ringP st x) (hy : ringP st y) (hl : y.length = x.length) : prL st x (stpL st rc T y) = stpL st rc T (prL st x y) := by
  have hs : 1 ≤ st := by have := h.1; omega
  have l0 := hx.2
  apply List.ext_getElem
  · rw [prL_len, stpL_len, prL_len]
  · intro j h1 h2
    have hj : j < x.length := by rw [prL_len] at h1; exact h1
    have e1 : (prL st x (stpL st rc T y))[j] = at_ 0 (prL st x (stpL st rc T y)) (j : Int) := (at_eq 0 _ h1).symm
    have e2 : (stpL st rc T (prL st x y))[j] = tdN st rc T (prL st x y) (j : Int) := by simp [stpL, stpF]
    rw [e1, e2, prL_at (by rw [stpL_len, hl]) (by omega) (by omega), add_td h ha (prL_in _ _ hs) (by rw [prL_len]; omega), prL_len]
    have left : ∀ i : Nat, i < x.length → (at_ 0 x (i : Int) * at_ 0 (stpL st rc T y) (((j : Int) - (i : Int)) % (x.length : Int))) % st = sumZ (fun t => at_ 0 x (i : Int) * (at_ 0 (tmL st rc T) (t : Int) * at_ 0 y (((j : Int) - (i : Int) - rc + (t : Int)) % (x.length : Int)))) (2 * rc + 1).toNat % st := by
      intro i hi
      have m0 := Int.emod_nonneg ((j : Int) - (i : Int)) (b := (x.length : Int)) (by omega)
      have m1 := Int.emod_lt_of_pos ((j : Int) - (i : Int)) (b := (x.length : Int)) (by omega)
      obtain ⟨q, hq⟩ := Int.eq_ofNat_of_zero_le m0
      have es : at_ 0 (stpL st rc T y) (((j : Int) - (i : Int)) % (x.length : Int)) = tdN st rc T y (((j : Int) - (i : Int)) % (x.length : Int)) := by
        rw [hq, at_eq 0 _ (by rw [stpL_len]; omega)]; simp [stpL, stpF]
      rw [es, add_td h ha hy.1 (by omega), hl, Int.mul_emod, Int.emod_emod_of_dvd _ (Int.dvd_refl st), ← Int.mul_emod, sumZ_mul]
      congr 1
      refine sumZ_congr (fun t ht => ?_)
      congr 2
      rw [show ((j : Int) - (i : Int)) % (x.length : Int) - rc + (t : Int) = ((j : Int) - (i : Int)) % (x.length : Int) + ((t : Int) - rc) by omega, Int.emod_add_emod]
      congr 2; omega
    have right : ∀ t : Nat, t < (2 * rc + 1).toNat → (at_ 0 (tmL st rc T) (t : Int) * at_ 0 (prL st x y) (((j : Int) - rc + (t : Int)) % (x.length : Int))) % st = sumZ (fun i => at_ 0 x (i : Int) * (at_ 0 (tmL st rc T) (t : Int) * at_ 0 y (((j : Int) - (i : Int) - rc + (t : Int)) % (x.length : Int)))) x.length % st := by
      intro t ht
      have m0 := Int.emod_nonneg ((j : Int) - rc + (t : Int)) (b := (x.length : Int)) (by omega)
      have m1 := Int.emod_lt_of_pos ((j : Int) - rc + (t : Int)) (b := (x.length : Int)) (by omega)
      rw [prL_at hl m0 m1, Int.mul_emod, Int.emod_emod_of_dvd _ (Int.dvd_refl st), ← Int.mul_emod, sumZ_mul]
      congr 1
      refine sumZ_congr (fun i hi => ?_)
      rw [← Int.mul_assoc, Int.mul_comm (at_ 0 (tmL st rc T) (t : Int)), Int.mul_assoc]
      congr 2
      rw [show ((j : Int) - rc + (t : Int)) % (x.length : Int) - (i : Int) = ((j : Int) - rc + (t : Int)) % (x.length : Int) + (-(i : Int)) by omega, Int.emod_add_emod]
      congr 2; omega
    rw [sumZ_mod' _ left, sumZ_mod' _ right, sumZ_swap]
/-- Products with the impulse behind some steps are steps. -/
theorem prL_it {st rc : Int} {T x : List Int} (h : ruleP st rc T) (ha : addP st rc T) (hx : ringP st x) : ∀ k, prL st x (itL st rc T (impL x.length) k) = itL st rc T x k
  | 0 => prL_imp hx
  | k + 1 => by
    have hi : ringP st (impL x.length) := ⟨impL_in (by have := h.1; omega) _, by rw [impL_len]; exact hx.2.1, by rw [impL_len]; exact hx.2.2⟩
    rw [itL, prL_step h ha hx (itL_ring h hi k) (by rw [itL_len, impL_len]), prL_it h ha hx k]; rfl
theorem faS_it {st rc : Int} {T l : List Int} {m : Int} (h : ruleP st rc T) (ha : addP st rc T) (hl : ringP st l) (h0 : 0 ≤ m) : ∀ i, (faS st l (stpL st rc T (impL l.length)) m i).1 = itL st rc T l (m % 2 ^ i).toNat ∧ (faS st l (stpL st rc T (impL l.length)) m i).2 = itL st rc T (impL l.length) (2 ^ i)
  | 0 => ⟨by simp [faS, itL], rfl⟩
  | i + 1 => by
    obtain ⟨h1, h2⟩ := faS_it h ha hl h0 i
    have hi : ringP st (impL l.length) := ⟨impL_in (by have := h.1; omega) _, by rw [impL_len]; exact hl.2.1, by rw [impL_len]; exact hl.2.2⟩
    have p : (0 : Int) < 2 ^ i := Int.pow_pos (by omega)
    have ep : (2 : Int) ^ (i + 1) = 2 * 2 ^ i := by rw [Int.pow_succ]; omega
    have em : m % 2 ^ (i + 1) = m % 2 ^ i + 2 ^ i * (m / 2 ^ i % 2) := by
      have a1 := Int.emod_add_mul_ediv m (2 ^ i)
      have a2 := Int.emod_add_mul_ediv m (2 ^ (i + 1))
      have a3 := Int.emod_add_mul_ediv (m / 2 ^ i) 2
      rw [Int.ediv_ediv_of_nonneg (by omega), show (2 : Int) ^ i * 2 = 2 ^ (i + 1) by rw [Int.pow_succ]] at a3
      have a4 : 2 ^ i * (m / 2 ^ i) = 2 ^ i * (m / 2 ^ i % 2) + 2 ^ (i + 1) * (m / 2 ^ (i + 1)) := by
        conv => lhs; rw [← a3]
        rw [Int.mul_add, ep, ← Int.mul_assoc, Int.mul_comm (2 ^ i) 2]
      omega
    have m0 := Int.emod_nonneg m (b := 2 ^ i) (by omega)
    have e2 : ((2 : Int) ^ i).toNat = 2 ^ i := by rw [Int.toNat_pow_of_nonneg (by omega)]; rfl
    have hb : prL st (itL st rc T (impL l.length) (2 ^ i)) (itL st rc T (impL l.length) (2 ^ i)) = itL st rc T (impL l.length) (2 ^ (i + 1)) := by
      have := prL_it h ha (itL_ring h hi (2 ^ i)) (2 ^ i)
      rw [itL_len, impL_len] at this
      rw [this, ← itL_add]; congr 1; rw [Nat.pow_succ]; omega
    rw [faS, h1, h2]
    refine ⟨?_, hb⟩
    show (if m / 2 ^ i % 2 = 1 then _ else _) = _
    by_cases c : m / 2 ^ i % 2 = 1
    · rw [if_pos c]
      have := prL_it h ha (itL_ring h hl (m % 2 ^ i).toNat) (2 ^ i)
      rw [itL_len] at this
      rw [this, ← itL_add]
      congr 1
      rw [em, c, Int.mul_one]; omega
    · rw [if_neg c]
      have : m / 2 ^ i % 2 = 0 := by omega
      rw [em, this, Int.mul_zero, Int.add_zero]
/-- Far ahead is step by step. -/
theorem far_run {st rc : Int} {T l : List Int} {m : Int} (h : farP st rc T l m) : farL st rc T l m = itL st rc T l m.toNat := by
  obtain ⟨h1, h2, h3, h4, h5, h6⟩ := h
  unfold farL faR
  rw [(faS_it h1 h4 h2 h5 41).1]
  congr 2
  exact Int.emod_eq_of_lt h5 (by have e : (2 : Int) ^ 41 = 2199023255552 := by decide
                                 omega)
/-- Behind what comes again, the same comes again for each ring. -/
theorem it_per {st rc : Int} {T l : List Int} (h : ruleP st rc T) (ha : addP st rc T) (hl : ringP st l) {f p : Nat} (he : itL st rc T (impL l.length) f = itL st rc T (impL l.length) (f + p)) (m : Nat) : itL st rc T l (f + m * p) = itL st rc T l f := by
  rw [← prL_it h ha hl, ← prL_it h ha hl]
  congr 1
  exact seq_per (s := itL st rc T (impL l.length)) (F := stpL st rc T) (fun _ => rfl) (a := f) (p := p) he.symm (Nat.le_refl _) m
end Go.Proofs.Ytelcmohhjkgjoaa
