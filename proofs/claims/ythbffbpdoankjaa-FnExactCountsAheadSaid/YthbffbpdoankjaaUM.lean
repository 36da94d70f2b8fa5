/- What is found first; counts ahead; shifted fields. -/
import Derived.Test.YthbffbpdoankjaaUL
namespace Go.Proofs.Ythbffbpdoankjaa
open HL
/-- The first number below N of which something holds, or -1. -/
def fstN (p : Nat → Prop) [DecidablePred p] : Nat → Int
  | 0 => -1
  | n + 1 => if 0 ≤ fstN p n then fstN p n else if p n then (n : Int) else -1
theorem fstN_none {p : Nat → Prop} [DecidablePred p] : ∀ {N : Nat}, (∀ t, t < N → ¬ p t) → fstN p N = -1
  | 0, _ => rfl
  | n + 1, h => by
    have ih := fstN_none (p := p) (N := n) (fun t ht => h t (by omega))
    simp only [fstN, ih]
    rw [if_neg (by omega), if_neg (h n (by omega))]
theorem fstN_at {p : Nat → Prop} [DecidablePred p] {t : Nat} (hp : p t) (h : ∀ s, s < t → ¬ p s) : ∀ {N : Nat}, t < N → fstN p N = (t : Int)
  | 0, ht => by omega
  | n + 1, ht => by
    by_cases e : t = n
    · subst e
      simp only [fstN, fstN_none h]
      rw [if_neg (by omega), if_pos hp]
    · have ih := fstN_at hp h (N := n) (by omega)
      simp only [fstN, ih]
      rw [if_pos (by omega)]
theorem fstN_lt {p : Nat → Prop} [DecidablePred p] : ∀ {N : Nat}, fstN p N < N ∧ -1 ≤ fstN p N
  | 0 => by simp [fstN]
  | n + 1 => by
    have ih := fstN_lt (p := p) (N := n)
    simp only [fstN]
    split
    · omega
    · split <;> omega
/-- The counts behind each of some steps. -/
def caL (rnd : Bool) (b s : List Int) (r c : Int) (l : List Int) (n : Nat) : List Int := (List.range (n + 1)).map fun j => cntE 1 (rnL rnd b s r c l j)
theorem caL_succ (rnd : Bool) (b s : List Int) (r c : Int) (l : List Int) (n : Nat) : caL rnd b s r c l n ++ [cntE 1 (nxL rnd b s r c (rnL rnd b s r c l n))] = caL rnd b s r c l (n + 1) := by
  unfold caL
  rw [List.range_succ (n := n + 1), List.map_append]; rfl
theorem caL_len (rnd : Bool) (b s : List Int) (r c : Int) (l : List Int) (n : Nat) : (caL rnd b s r c l n).length = n + 1 := by simp [caL]
theorem field_01 {r c : Int} {l : List Int} (h : fieldN 1 r c l) : ∀ x ∈ l, 0 ≤ x ∧ x ≤ 1 := h.2.2
/-- A shifted field. -/
def shG (r c : Int) (l : List Int) (a b i k : Int) : Int := at_ 0 l (roundF r c (i - a) (k - b))
def shL (r c : Int) (l : List Int) (a b : Int) : List Int := mkL c (shG r c l a b) (r.toNat * c.toNat)
/-- A place of a shift: steps, rows and columns in one number. -/
def mvP (b s : List Int) (r c : Int) (l : List Int) (t : Nat) : Prop :=
  cntE 1 (rnL true b s r c l (t / c.toNat / r.toNat + 1)) = cntE 1 l ∧ rnL true b s r c l (t / c.toNat / r.toNat + 1) = shL r c l ((t / c.toNat % r.toNat : Nat) : Int) ((t % c.toNat : Nat) : Int)
instance (b s : List Int) (r c : Int) (l : List Int) : DecidablePred (mvP b s r c l) := fun t => by unfold mvP; infer_instance
theorem tri {n i k r c : Nat} (hi : i < r) (hk : k < c) : ((n * r + i) * c + k) / c / r = n ∧ ((n * r + i) * c + k) / c % r = i ∧ ((n * r + i) * c + k) % c = k := by
  have h1 : ((n * r + i) * c + k) / c = n * r + i := by rw [Nat.add_comm, Nat.add_mul_div_right _ _ (by omega), Nat.div_eq_of_lt hk]; omega
  have h2 : ((n * r + i) * c + k) % c = k := by rw [Nat.add_comm, Nat.add_mul_mod_self_right, Nat.mod_eq_of_lt hk]
  rw [h1, h2]
  refine ⟨?_, ?_, rfl⟩
  · rw [Nat.add_comm, Nat.add_mul_div_right _ _ (by omega), Nat.div_eq_of_lt hi]; omega
  · rw [Nat.add_comm, Nat.add_mul_mod_self_right, Nat.mod_eq_of_lt hi]
end Go.Proofs.Ythbffbpdoankjaa
