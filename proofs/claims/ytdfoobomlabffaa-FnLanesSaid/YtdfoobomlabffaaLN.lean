/- Lanes: cars that go on, by plain law. -/
import Derived.Test.YtdfoobomlabffaaSE
import Derived.Test.YtdfoobomlabffaaUGA
import Derived.Test.YtdfoobomlabffaaSN
namespace Go.Proofs.Ytdfoobomlabffaa
open HL
set_option maxRecDepth 100000
theorem HL.vMx_min3 (k : IntKind) (a b c : Int) : vMx false (.int k a) [.int k b, .int k c] = some (.int k (min (min a b) c)) := by
  simp only [vMx]; congr 2; split <;> split <;> omega
/-- The first place, from one on, that has something. -/
def fstF (p : Nat → Bool) : Nat → Nat → Nat
  | a, 0 => a
  | a, f + 1 => if p a = true then a else fstF p (a + 1) f
theorem fstF_at {p : Nat → Bool} : ∀ {f a m : Nat}, (∀ j, a ≤ j → j < m → p j = false) → p m = true → a ≤ m → m ≤ a + f → fstF p a f = m
  | 0, a, m, _, _, h1, h2 => by unfold fstF; omega
  | f + 1, a, m, h, hp, h1, h2 => by
    unfold fstF
    by_cases e : a = m
    · subst e; rw [if_pos hp]
    · rw [if_neg (by rw [h a (by omega) (by omega)]; simp)]
      exact fstF_at (fun j hj hm => h j (by omega) hm) hp (by omega) (by omega)
theorem fstF_spec {p : Nat → Bool} : ∀ {f a m : Nat}, p m = true → a ≤ m → m < a + f → a ≤ fstF p a f ∧ fstF p a f ≤ m ∧ p (fstF p a f) = true ∧ ∀ j, a ≤ j → j < fstF p a f → p j = false
  | 0, a, m, _, h1, h2 => by omega
  | f + 1, a, m, hp, h1, h2 => by
    unfold fstF
    by_cases e : p a = true
    · rw [if_pos e]; exact ⟨Nat.le_refl _, h1, e, fun j _ _ => by omega⟩
    · rw [if_neg e]
      have hne : a ≠ m := by rintro rfl; exact e hp
      obtain ⟨i1, i2, i3, i4⟩ := fstF_spec (f := f) (a := a + 1) hp (by omega) (by omega)
      refine ⟨by omega, i2, i3, fun j hj hl => ?_⟩
      by_cases ej : j = a
      · subst ej; simpa using e
      · exact i4 j (by omega) hl
/-- Where the place is that lies some places before a car. -/
def lnAt (l : List Int) (i : Int) (m : Nat) : Int := at_ 0 l ((i + 1 + (m : Int)) % (l.length : Int))
/-- How many free places are before a car. -/
def frG (l : List Int) (i : Int) : Nat := fstF (fun m => decide (0 ≤ lnAt l i m)) 0 l.length
theorem frG_at {l : List Int} {i : Int} {m : Nat} (h : ∀ j, j < m → lnAt l i j < 0) (hm : 0 ≤ lnAt l i m) (hl : m ≤ l.length) : frG l i = m :=
  fstF_at (fun j _ hj => decide_eq_false (by have := h j hj; omega)) (decide_eq_true hm) (Nat.zero_le _) (by omega)
theorem lnAt_self {l : List Int} {i : Int} (h0 : 0 ≤ i) (h1 : i < l.length) : lnAt l i (l.length - 1) = at_ 0 l i := by
  unfold lnAt
  rw [show i + 1 + ((l.length - 1 : Nat) : Int) = i + (l.length : Int) by omega, Int.add_emod_right, Int.emod_eq_of_lt h0 h1]
theorem frG_spec {l : List Int} {i : Int} (h0 : 0 ≤ i) (h1 : i < l.length) (hc : 0 ≤ at_ 0 l i) : frG l i ≤ l.length - 1 ∧ 0 ≤ lnAt l i (frG l i) ∧ ∀ j, j < frG l i → lnAt l i j < 0 := by
  obtain ⟨_, i2, i3, i4⟩ := fstF_spec (p := fun m => decide (0 ≤ lnAt l i m)) (f := l.length) (a := 0) (m := l.length - 1) (decide_eq_true (by rw [lnAt_self h0 h1]; exact hc)) (Nat.zero_le _) (by omega)
  refine ⟨i2, of_decide_eq_true i3, fun j hj => ?_⟩
  have := of_decide_eq_false (i4 j (Nat.zero_le _) hj)
  omega
/-- How fast a car goes on. -/
def lnV (l : List Int) (most : Int) (sh : Nat) (i s : Int) : Int :=
  let v := min (min (at_ 0 l i + 1) most) (frG l i : Int)
  if shB s sh = true ∧ 0 < v then v - 1 else v
/-- A lane and a seed behind some cells. -/
def lnS (l : List Int) (most : Int) (sh : Nat) (x : Int) : Nat → List Int × Int
  | 0 => (List.replicate l.length (-1), x)
  | i + 1 => if at_ 0 l (i : Int) < 0 then lnS l most sh x i else
    ((lnS l most sh x i).1.set (((i : Int) + lnV l most sh i (nxS (lnS l most sh x i).2)) % (l.length : Int)).toNat (lnV l most sh i (nxS (lnS l most sh x i).2)), nxS (lnS l most sh x i).2)
theorem lnS_len {l : List Int} {most : Int} {sh : Nat} {x : Int} : ∀ n, (lnS l most sh x n).1.length = l.length
  | 0 => by simp [lnS]
  | n + 1 => by
    unfold lnS
    split
    · exact lnS_len n
    · rw [List.length_set]; exact lnS_len n
theorem lnS_seed {l : List Int} {most : Int} {sh : Nat} {x : Int} (h0 : 0 ≤ x) (h1 : x ≤ 4294967295) : ∀ n, 0 ≤ (lnS l most sh x n).2 ∧ (lnS l most sh x n).2 ≤ 4294967295
  | 0 => ⟨h0, h1⟩
  | n + 1 => by
    unfold lnS
    split
    · exact lnS_seed h0 h1 n
    · simp only [nxS]; omega
theorem lnS_skip {l : List Int} {most : Int} {sh : Nat} {x : Int} {i : Nat} (h : at_ 0 l (i : Int) < 0) : lnS l most sh x (i + 1) = lnS l most sh x i := by
  rw [lnS, if_pos h]
theorem lnS_car {l : List Int} {most : Int} {sh : Nat} {x : Int} {i : Nat} (h : ¬ at_ 0 l (i : Int) < 0) {s v : Int} (hs : s = nxS (lnS l most sh x i).2) (hv : v = lnV l most sh i s) :
    lnS l most sh x (i + 1) = ((lnS l most sh x i).1.set (((i : Int) + v) % (l.length : Int)).toNat v, s) := by
  rw [lnS, if_neg h]; subst hv; subst hs; rfl
def lnsP (l : List Int) (most : Int) (sh : Nat) (x : Int) : Prop := isLane l ∧ (1 ≤ most ∧ most ≤ 5) ∧ shrP sh ∧ 0 ≤ x ∧ x ≤ 4294967295
instance (l : List Int) (most : Int) (sh : Nat) (x : Int) : Decidable (lnsP l most sh x) := by unfold lnsP; infer_instance
def lnL (l : List Int) (most : Int) (sh : Nat) (x : Int) : List Int := (lnS l most sh x l.length).1
def lnX (l : List Int) (most : Int) (sh : Nat) (x : Int) : Int := (lnS l most sh x l.length).2
theorem lnP_len {l : List Int} {most : Int} {sh : Nat} {x : Int} : (selL (lnsP l most sh x) (lnL l most sh x)).length ≤ 64 := selL_len fun h => by
  have := h.1.1.2
  unfold lnL; rw [lnS_len]; omega
theorem lnV_bnd {l : List Int} {most : Int} {sh : Nat} {i s : Int} (h0 : 0 ≤ i) (h1 : i < l.length) (hc : 0 ≤ at_ 0 l i) (hm : 1 ≤ most) : 0 ≤ lnV l most sh i s ∧ lnV l most sh i s ≤ most ∧ lnV l most sh i s ≤ frG l i ∧ lnV l most sh i s ≤ at_ 0 l i + 1 := by
  unfold lnV
  simp only
  split <;> omega
theorem lnV_t {l : List Int} {most : Int} {sh : Nat} {i s v : Int} (hv : v = min (min (at_ 0 l i + 1) most) (frG l i : Int)) (h1 : shB s sh = true) (h2 : 0 < v) : lnV l most sh i s = v - 1 := by
  unfold lnV; simp only [← hv]; rw [if_pos ⟨h1, h2⟩]
theorem lnV_f {l : List Int} {most : Int} {sh : Nat} {i s v : Int} (hv : v = min (min (at_ 0 l i + 1) most) (frG l i : Int)) (h : ¬ (shB s sh = true ∧ 0 < v)) : lnV l most sh i s = v := by
  unfold lnV; simp only [← hv]; rw [if_neg h]
end Go.Proofs.Ytdfoobomlabffaa
