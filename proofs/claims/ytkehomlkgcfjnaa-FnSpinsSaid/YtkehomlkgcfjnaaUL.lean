/- Life on fields: what a step and many steps come to. -/
import Derived.Test.YtkehomlkgcfjnaaTE
import Derived.Test.YtkehomlkgcfjnaaKB
namespace Go.Proofs.Ytkehomlkgcfjnaa
open HL
set_option maxRecDepth 100000
/-- Numbers that rise, the first n of them. -/
def cntU (l : List Int) (n : Nat) : Prop := ∀ j : Nat, j < n → 0 < j → at_ 0 l ((j : Int) - 1) < at_ 0 l (j : Int)
def cntV (l : List Int) (n : Nat) : Prop := ∀ j : Nat, j < n → 0 ≤ at_ 0 l (j : Int) ∧ at_ 0 l (j : Int) ≤ 8
/-- Counts of neighbours. -/
def cntP (l : List Int) : Prop := (∀ x ∈ l, 0 ≤ x ∧ x ≤ 8) ∧ cntU l l.length
instance (l : List Int) (n : Nat) : Decidable (cntU l n) := by unfold cntU; infer_instance
instance (l : List Int) : Decidable (cntP l) := by unfold cntP; infer_instance
theorem cntU_zero (l : List Int) : cntU l 0 := fun j h => by omega
theorem cntU_one (l : List Int) : cntU l 1 := fun j h h0 => by omega
theorem cntV_zero (l : List Int) : cntV l 0 := fun j h => by omega
theorem cntU_succ {l : List Int} {n : Nat} (h : cntU l n) (h1 : 0 < n → at_ 0 l ((n : Int) - 1) < at_ 0 l (n : Int)) : cntU l (n + 1) := fun j hj h0 => by
  by_cases e : j = n
  · subst e; exact h1 h0
  · exact h j (by omega) h0
theorem cntV_succ {l : List Int} {n : Nat} (h : cntV l n) (h1 : 0 ≤ at_ 0 l (n : Int) ∧ at_ 0 l (n : Int) ≤ 8) : cntV l (n + 1) := fun j hj => by
  by_cases e : j = n
  · subst e; exact h1
  · exact h j (by omega)
theorem cntV_all {l : List Int} {n : Nat} (h : cntV l n) (hn : l.length ≤ n) : ∀ x ∈ l, 0 ≤ x ∧ x ≤ 8 := fun x hx => by
  obtain ⟨j, hj, rfl⟩ := List.mem_iff_getElem.mp hx
  have := h j (by omega)
  rw [at_eq 0 l hj] at this
  exact this
theorem cntP_in {l : List Int} (h : cntP l) {j : Nat} (hj : j < l.length) : 0 ≤ at_ 0 l (j : Int) ∧ at_ 0 l (j : Int) ≤ 8 := h.1 _ (at_mem 0 l (by omega) (by omega))
theorem cntP_up {l : List Int} (h : cntP l) {j : Nat} (hj : j < l.length) (h0 : 0 < j) : at_ 0 l ((j : Int) - 1) < at_ 0 l (j : Int) := h.2 j hj h0
theorem cntU_full {l : List Int} {n : Nat} (h : cntU l n) (hn : l.length ≤ n) : cntU l l.length := fun j hj h0 => h j (by omega) h0
/-- Is a life valid? -/
def lifP (b s : List Int) : Prop := cntP b ∧ cntP s
instance (b s : List Int) : Decidable (lifP b s) := by unfold lifP; infer_instance
/-- Can a field live? -/
def canP (b s : List Int) (r c : Int) (l : List Int) : Prop := lifP b s ∧ fieldN 1 r c l
instance (b s : List Int) (r c : Int) (l : List Int) : Decidable (canP b s r c l) := by unfold canP; infer_instance
def sumF (f : Int → Int) : Nat → Int
  | 0 => 0
  | n + 1 => sumF f n + f n
theorem sumF_zero (f : Int → Int) : sumF f 0 = 0 := rfl
theorem sumF_succ (f : Int → Int) (n : Nat) : sumF f (n + 1) = sumF f n + f n := rfl
theorem sumF_3 (f : Int → Int) : sumF f 3 = f 0 + f 1 + f 2 := by
  show 0 + f ((0 : Nat) : Int) + f ((1 : Nat) : Int) + f ((2 : Nat) : Int) = _
  simp
theorem sumF_bnd {f : Int → Int} {a b : Int} (h : ∀ i, a ≤ f i ∧ f i ≤ b) : ∀ n : Nat, (n : Int) * a ≤ sumF f n ∧ sumF f n ≤ (n : Int) * b
  | 0 => by simp [sumF]
  | n + 1 => by
    have h1 := sumF_bnd h n
    have h2 := h n
    simp only [sumF, Int.natCast_add, Int.add_mul]
    omega
/-- A cell, round and round, or 0 beyond the border. -/
def lkF (rnd : Bool) (r c : Int) (l : List Int) (i k : Int) : Int := if rnd then at_ 0 l (roundF r c i k) else flatF r c l i k
/-- The same, but 0 for one cell. -/
def skF (rnd : Bool) (r c : Int) (l : List Int) (i k a b : Int) : Int := if a = i ∧ b = k then 0 else lkF rnd r c l a b
/-- The neighbours of a cell that are 1. -/
def arF (rnd : Bool) (r c : Int) (l : List Int) (i k : Int) : Int := sumF (fun a => sumF (fun b => skF rnd r c l i k (i - 1 + a) (k - 1 + b)) 3) 3
theorem roundF_in {r c i k : Int} (h1 : 0 ≤ i) (h2 : i < r) (h3 : 0 ≤ k) (h4 : k < c) : roundF r c i k = i * c + k := by
  unfold roundF
  rw [Int.emod_eq_of_lt h1 h2, Int.emod_eq_of_lt h3 h4]
theorem lkF_in {rnd : Bool} {r c i k : Int} {l : List Int} (h1 : 0 ≤ i) (h2 : i < r) (h3 : 0 ≤ k) (h4 : k < c) : lkF rnd r c l i k = at_ 0 l (i * c + k) := by
  unfold lkF
  rw [roundF_in h1 h2 h3 h4]
  split
  · rfl
  · unfold flatF; rw [if_pos (by omega)]
theorem lkF_01 {rnd : Bool} {r c : Int} {l : List Int} (h : fieldN 1 r c l) (i k : Int) : 0 ≤ lkF rnd r c l i k ∧ lkF rnd r c l i k ≤ 1 := by
  unfold lkF
  split
  · have b := roundF_lt (i := i) (k := k) h.1
    exact fieldN_at h (by omega) (by omega)
  · unfold flatF
    split
    · rename_i h1
      have b := ix_lt (a := i) (b := k) (r := r) (c := c) (by omega) (by omega) (by omega) (by omega)
      exact fieldN_at h (by omega) (by omega)
    · omega
theorem skF_01 {rnd : Bool} {r c : Int} {l : List Int} (h : fieldN 1 r c l) (i k a b : Int) : 0 ≤ skF rnd r c l i k a b ∧ skF rnd r c l i k a b ≤ 1 := by
  unfold skF
  split
  · omega
  · exact lkF_01 h a b
theorem skF_eq {rnd : Bool} {r c : Int} {l : List Int} {i k a b : Int} : skF rnd r c l i k a b = if a = i ∧ b = k then 0 else if rnd = true ∨ ((0 ≤ a ∧ a ≤ r - 1) ∧ 0 ≤ b ∧ b ≤ c - 1) then at_ 0 l (roundF r c a b) else 0 := by
  unfold skF lkF flatF
  split
  · rfl
  · cases rnd with
    | true => simp
    | false =>
      simp only [Bool.false_eq_true, if_false, false_or]
      split
      · rename_i h; rw [roundF_in (by omega) (by omega) (by omega) (by omega)]
      · rfl
theorem arF_eq {rnd : Bool} {r c : Int} {l : List Int} {i k : Int} (h1 : 0 ≤ i) (h2 : i < r) (h3 : 0 ≤ k) (h4 : k < c) :
    -at_ 0 l (i * c + k) + sumF (fun a => sumF (fun b => lkF rnd r c l (i - 1 + a) (k - 1 + b)) 3) 3 = arF rnd r c l i k := by
  have e := lkF_in (rnd := rnd) (l := l) h1 h2 h3 h4
  unfold arF
  simp only [sumF_3, skF]
  rw [if_neg (by omega), if_neg (by omega), if_neg (by omega), if_neg (by omega), if_pos (by omega), if_neg (by omega), if_neg (by omega), if_neg (by omega), if_neg (by omega)]
  rw [show i - 1 + 1 = i by omega, show k - 1 + 1 = k by omega, e]
  omega
/-- What a cell becomes. -/
def nxG (rnd : Bool) (b s : List Int) (r c : Int) (l : List Int) (i k : Int) : Int :=
  if at_ 0 l (i * c + k) = 0 then (if arF rnd r c l i k ∈ b then 1 else 0) else (if arF rnd r c l i k ∈ s then 1 else 0)
section
variable {rnd : Bool} {b s : List Int} {r c i k : Int} {l : List Int}
theorem nx_b1 (h : at_ 0 l (i * c + k) = 0) (h2 : arF rnd r c l i k ∈ b) : nxG rnd b s r c l i k = 1 := by unfold nxG; rw [if_pos h, if_pos h2]
theorem nx_b0 (h : at_ 0 l (i * c + k) = 0) (h2 : arF rnd r c l i k ∉ b) : nxG rnd b s r c l i k = 0 := by unfold nxG; rw [if_pos h, if_neg h2]
theorem nx_s1 (h : at_ 0 l (i * c + k) = 1) (h2 : arF rnd r c l i k ∈ s) : nxG rnd b s r c l i k = 1 := by unfold nxG; rw [if_neg (by omega), if_pos h2]
theorem nx_s0 (h : at_ 0 l (i * c + k) = 1) (h2 : arF rnd r c l i k ∉ s) : nxG rnd b s r c l i k = 0 := by unfold nxG; rw [if_neg (by omega), if_neg h2]
end
/-- The next field. -/
def nxL (rnd : Bool) (b s : List Int) (r c : Int) (l : List Int) : List Int := mkL c (nxG rnd b s r c l) (r.toNat * c.toNat)
theorem nxG_01 (rnd : Bool) (b s : List Int) (r c : Int) (l : List Int) (i k : Int) : 0 ≤ nxG rnd b s r c l i k ∧ nxG rnd b s r c l i k ≤ 1 := by
  unfold nxG
  split <;> split <;> omega
theorem mkL_len' {c : Int} {g : Int → Int → Int} {rr cc : Int} (h1 : 0 ≤ rr) (h2 : 0 ≤ cc) : ((mkL c g (rr.toNat * cc.toNat)).length : Int) = rr * cc := by
  rw [mkL_length, Int.natCast_mul, Int.toNat_of_nonneg h1, Int.toNat_of_nonneg h2]
theorem mkL_field {n r c : Int} {g : Int → Int → Int} (h : sidesF r c) (hg : ∀ i k, 0 ≤ g i k ∧ g i k ≤ n) : fieldN n r c (mkL c g (r.toNat * c.toNat)) := by
  have q1 := h.1
  have q2 := h.2
  refine ⟨h, mkL_len' (by omega) (by omega), fun x hx => ?_⟩
  simp only [mkL, List.mem_map] at hx
  obtain ⟨j, _, rfl⟩ := hx
  exact hg _ _
theorem nxL_field {rnd : Bool} {b s : List Int} {r c : Int} {l : List Int} (h : sidesF r c) : fieldN 1 r c (nxL rnd b s r c l) := mkL_field h (nxG_01 rnd b s r c l)
/-- The field behind steps. -/
def rnL (rnd : Bool) (b s : List Int) (r c : Int) (l : List Int) : Nat → List Int
  | 0 => l
  | n + 1 => nxL rnd b s r c (rnL rnd b s r c l n)
theorem rnL_zero (rnd : Bool) (b s : List Int) (r c : Int) (l : List Int) : rnL rnd b s r c l 0 = l := rfl
theorem rnL_succ (rnd : Bool) (b s : List Int) (r c : Int) (l : List Int) (n : Nat) : rnL rnd b s r c l (n + 1) = nxL rnd b s r c (rnL rnd b s r c l n) := rfl
theorem rnL_field {rnd : Bool} {b s : List Int} {r c : Int} {l : List Int} (h : fieldN 1 r c l) : ∀ n, fieldN 1 r c (rnL rnd b s r c l n)
  | 0 => h
  | _ + 1 => nxL_field h.1
theorem fillL_skip {c : Int} {g : Int → Int → Int} {N : Nat} {i k : Int} {t : Nat} (hc : 0 < c) (k0 : 0 ≤ k) (k1 : k < c) (ht : (t : Int) = i * c + k) (h : g i k = 0) : fillL c g N t = fillL c g N (t + 1) := by
  have hd := divmod (c := c) (i := i) (k := k) hc k0 k1
  unfold fillL
  apply List.map_congr_left
  intro j _
  by_cases e : j = t
  · subst e
    rw [if_neg (by omega), if_pos (by omega), ht, hd.1, hd.2, h]
  · by_cases h1 : j < t
    · rw [if_pos h1, if_pos (by omega)]
    · rw [if_neg h1, if_neg (by omega)]
theorem notin_succ {x : Int} {l : List Int} {i : Nat} (h : x ∉ l.take i) (hi : i < l.length) (hne : ¬ at_ 0 l (i : Int) = x) : x ∉ l.take (i + 1) := by
  rw [take_at 0 l hi]
  intro hh
  rcases List.mem_append.mp hh with hh | hh
  · exact h hh
  · simp only [List.mem_singleton] at hh; exact hne hh.symm
/-- Where a number stands first, or -1. -/
def idxL (x : Int) (l : List Int) : Int := if x ∈ l then (l.findIdx (· == x) : Nat) else -1
theorem idxL_not {x : Int} {l : List Int} (h : x ∉ l) : idxL x l = -1 := if_neg h
theorem idxL_mem {x : Int} {l : List Int} : 0 ≤ idxL x l ↔ x ∈ l := by
  unfold idxL
  split
  · rename_i h; simp [h]
  · rename_i h; simp [h]
theorem idxL_at {x : Int} {l : List Int} {i : Nat} (h : x ∉ l.take i) (hi : i < l.length) (he : at_ 0 l (i : Int) = x) : idxL x l = (i : Int) := by
  rw [at_eq 0 l hi] at he
  unfold idxL
  rw [if_pos (he ▸ List.getElem_mem hi)]
  congr 1
  rw [List.findIdx_eq hi]
  refine ⟨by simp [he], fun j hj => ?_⟩
  simp only [beq_eq_false_iff_ne, ne_eq]
  intro hh
  exact h (List.mem_iff_getElem.mpr ⟨j, by simp; omega, by simp [hh]⟩)
/-- How many cells have a state. -/
def cntE (v : Int) (l : List Int) : Int := l.countP (· == v)
def sumL : List Int → Int
  | [] => 0
  | x :: r => x + sumL r
theorem sumL_append (a b : List Int) : sumL (a ++ b) = sumL a + sumL b := by
  induction a with
  | nil => simp [sumL]
  | cons x r ih => simp only [List.cons_append, sumL, ih]; omega
theorem cntE_take {v : Int} {l : List Int} {i : Nat} (h : i < l.length) : cntE v (l.take (i + 1)) = cntE v (l.take i) + (if at_ 0 l (i : Int) = v then 1 else 0) := by
  unfold cntE
  rw [take_at 0 l h, List.countP_append]
  simp only [List.countP_cons, List.countP_nil, beq_iff_eq, Nat.zero_add]
  split <;> simp
theorem sumL_take {l : List Int} {i : Nat} (h : i < l.length) : sumL (l.take (i + 1)) = sumL (l.take i) + at_ 0 l (i : Int) := by
  rw [take_at 0 l h, sumL_append]; simp [sumL]
theorem cntE_one : ∀ {l : List Int}, (∀ x ∈ l, 0 ≤ x ∧ x ≤ 1) → cntE 1 l = sumL l
  | [], _ => rfl
  | x :: r, h => by
    have h1 := h x (by simp)
    have ih := cntE_one (l := r) (fun y hy => h y (by simp [hy]))
    unfold cntE at ih ⊢
    simp only [sumL, List.countP_cons, Int.natCast_add, beq_iff_eq]
    split
    · simp; omega
    · simp; omega
theorem cntE_bnd (v : Int) (l : List Int) : 0 ≤ cntE v l ∧ cntE v l ≤ l.length := by
  unfold cntE
  have := List.countP_le_length (p := (· == v)) (l := l)
  omega
theorem sumL_bnd {l : List Int} {m : Int} (h : ∀ x ∈ l, 0 ≤ x ∧ x ≤ m) : 0 ≤ sumL l ∧ sumL l ≤ l.length * m := by
  induction l with
  | nil => simp [sumL]
  | cons x r ih =>
    have h1 := h x (by simp)
    have h2 := ih (fun y hy => h y (by simp [hy]))
    simp only [sumL, List.length_cons, Int.natCast_add, Int.add_mul]
    omega
end Go.Proofs.Ytkehomlkgcfjnaa
