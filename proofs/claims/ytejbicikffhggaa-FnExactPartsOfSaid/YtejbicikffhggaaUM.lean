/- What is found first; counts ahead; shifted fields. -/
import Derived.Test.YtejbicikffhggaaUL
namespace Go.Proofs.Ytejbicikffhggaa
open HL
/-- The first number below N of which something holds, or -1. -/
def fstN (p : Nat → Prop) [DecidablePred p] : Nat → Int
  | 0 => -1
  | n + 1 => if 0 ≤ fstN p n then fstN p n else if p n then (n : Int) else -1
theorem fstN_none {p : Nat → Prop} [DecidablePred p] : ∀ {N : Nat}, (∀ t, t < N → ¬ p t) → fstN p N = -1
  | 0, _ => rfl
  | n + 1, h => by
    have ih := fstN_none (p := p) (N := n) (fun t ht => h t (by omega))
    simp only [fstN, ih]
    rw [if_neg (by omega), if_neg (h n (by omega))]
theorem fstN_at {p : Nat → Prop} [DecidablePred p] {t : Nat} (hp : p t) (h : ∀ s, s < t → ¬ p s) : ∀ {N : Nat}, t < N → fstN p N = (t : Int)
  | 0, ht => by omega
  | n + 1, ht => by
    by_cases e : t = n
    · subst e
      simp only [fstN, fstN_none h]
      rw [if_neg (by omega), if_pos hp]
    · have ih := fstN_at hp h (N := n) (by omega)
      simp only [fstN, ih]
      rw [if_pos (by omega)]
theorem fstN_lt {p : Nat → Prop} [DecidablePred p] : ∀ {N : Nat}, fstN p N < N ∧ -1 ≤ fstN p N
  | 0 => by simp [fstN]
  | n + 1 => by
    have ih := fstN_lt (p := p) (N := n)
    simp only [fstN]
    split
    · omega
    · split <;> omega
/-- The counts behind each of some steps. -/
def caL (rnd : Bool) (b s : List Int) (r c : Int) (l : List Int) (n : Nat) : List Int := (List.range (n + 1)).map fun j => cntE 1 (rnL rnd b s r c l j)
theorem caL_succ (rnd : Bool) (b s : List Int) (r c : Int) (l : List Int) (n : Nat) : caL rnd b s r c l n ++ [cntE 1 (nxL rnd b s r c (rnL rnd b s r c l n))] = caL rnd b s r c l (n + 1) := by
  unfold caL
  rw [List.range_succ (n := n + 1), List.map_append]; rfl
theorem caL_len (rnd : Bool) (b s : List Int) (r c : Int) (l : List Int) (n : Nat) : (caL rnd b s r c l n).length = n + 1 := by simp [caL]
theorem field_01 {r c : Int} {l : List Int} (h : fieldN 1 r c l) : ∀ x ∈ l, 0 ≤ x ∧ x ≤ 1 := h.2.2
/-- A shifted field. -/
def shG (r c : Int) (l : List Int) (a b i k : Int) : Int := at_ 0 l (roundF r c (i - a) (k - b))
def shL (r c : Int) (l : List Int) (a b : Int) : List Int := mkL c (shG r c l a b) (r.toNat * c.toNat)
/-- A place of a shift: steps, rows and columns in one number. -/
def mvP (b s : List Int) (r c : Int) (l : List Int) (t : Nat) : Prop :=
  cntE 1 (rnL true b s r c l (t / c.toNat / r.toNat + 1)) = cntE 1 l ∧ rnL true b s r c l (t / c.toNat / r.toNat + 1) = shL r c l ((t / c.toNat % r.toNat : Nat) : Int) ((t % c.toNat : Nat) : Int)
instance (b s : List Int) (r c : Int) (l : List Int) : DecidablePred (mvP b s r c l) := fun t => by unfold mvP; infer_instance
theorem tri {n i k r c : Nat} (hi : i < r) (hk : k < c) : ((n * r + i) * c + k) / c / r = n ∧ ((n * r + i) * c + k) / c % r = i ∧ ((n * r + i) * c + k) % c = k := by
  have h1 : ((n * r + i) * c + k) / c = n * r + i := by rw [Nat.add_comm, Nat.add_mul_div_right _ _ (by omega), Nat.div_eq_of_lt hk]; omega
  have h2 : ((n * r + i) * c + k) % c = k := by rw [Nat.add_comm, Nat.add_mul_mod_self_right, Nat.mod_eq_of_lt hk]
  rw [h1, h2]
  refine ⟨?_, ?_, rfl⟩
  · rw [Nat.add_comm, Nat.add_mul_div_right _ _ (by omega), Nat.div_eq_of_lt hi]; omega
  · rw [Nat.add_comm, Nat.add_mul_mod_self_right, Nat.mod_eq_of_lt hi]
/-- Where a field is shifted first, steps, rows and columns in one number. -/
def mvF (b s : List Int) (r c : Int) (l : List Int) (st : Int) : Int := fstN (mvP b s r c l) (st.toNat * r.toNat * c.toNat)
def mvT (b s : List Int) (r c : Int) (l : List Int) (st : Int) : Nat := (mvF b s r c l st).toNat
def mvOk (b s : List Int) (r c : Int) (l : List Int) (st : Int) : Prop := canP b s r c l ∧ (1 ≤ st ∧ st ≤ 512) ∧ 0 ≤ mvF b s r c l st
instance (b s : List Int) (r c : Int) (l : List Int) (st : Int) : Decidable (mvOk b s r c l st) := by unfold mvOk; infer_instance
section
variable {b s : List Int} {r c st : Int} {l : List Int} {n i k : Nat}
theorem mv_hit {t : Nat} (h1 : canP b s r c l) (h2 : 1 ≤ st ∧ st ≤ 512) (hp : mvP b s r c l t) (h : ∀ s', s' < t → ¬ mvP b s r c l s') (ht : t < st.toNat * r.toNat * c.toNat) : mvOk b s r c l st ∧ mvT b s r c l st = t := by
  have e : mvF b s r c l st = (t : Int) := fstN_at hp h ht
  refine ⟨⟨h1, h2, by omega⟩, ?_⟩
  unfold mvT; omega
theorem mv_none (h : ∀ t, t < st.toNat * r.toNat * c.toNat → ¬ mvP b s r c l t) : ¬ mvOk b s r c l st := fun hh => by
  have := hh.2.2
  unfold mvF at this
  rw [fstN_none h] at this
  omega
theorem mv_skip (hne : ¬ cntE 1 (rnL true b s r c l (n + 1)) = cntE 1 l) (h : ∀ t, t < (n * r.toNat + i) * c.toNat → ¬ mvP b s r c l t) : ∀ t, t < (n + 1) * r.toNat * c.toNat → ¬ mvP b s r c l t := fun t ht hp => by
  by_cases h1 : t < (n * r.toNat + i) * c.toNat
  · exact h t h1 hp
  · have e : t / c.toNat / r.toNat = n := by
      rw [Nat.div_div_eq_div_mul, Nat.div_eq_iff (by
        rcases Nat.eq_zero_or_pos (c.toNat * r.toNat) with h0 | h0
        · rw [Nat.mul_assoc, Nat.mul_comm r.toNat, h0] at ht; omega
        · exact h0)]
      have h3 : n * r.toNat * c.toNat ≤ t := by
        rw [Nat.add_mul] at h1; omega
      have h4 : n * (c.toNat * r.toNat) = n * r.toNat * c.toNat := by rw [Nat.mul_comm c.toNat, Nat.mul_assoc]
      have h5 : (n + 1) * r.toNat * c.toNat = n * r.toNat * c.toNat + c.toNat * r.toNat := by rw [Nat.add_mul, Nat.add_mul, Nat.one_mul, Nat.mul_comm r.toNat]
      omega
    have := hp.1
    rw [e] at this
    exact hne this
theorem mv_next (hi : i < r.toNat) (hk : k < c.toNat) (h : ∀ t, t < (n * r.toNat + i) * c.toNat + k → ¬ mvP b s r c l t) (hq : ¬ rnL true b s r c l (n + 1) = shL r c l (i : Int) (k : Int)) : ∀ t, t < (n * r.toNat + i) * c.toNat + (k + 1) → ¬ mvP b s r c l t := fun t ht hp => by
  by_cases e : t = (n * r.toNat + i) * c.toNat + k
  · have q := tri (n := n) hi hk
    rw [← e] at q
    have h2 := hp.2
    rw [q.1, q.2.1, q.2.2] at h2
    exact hq h2
  · exact h t (by omega) hp
theorem mv_is (hi : i < r.toNat) (hk : k < c.toNat) (h1 : cntE 1 (rnL true b s r c l (n + 1)) = cntE 1 l) (h2 : rnL true b s r c l (n + 1) = shL r c l (i : Int) (k : Int)) : mvP b s r c l ((n * r.toNat + i) * c.toNat + k) := by
  have q := tri (n := n) hi hk
  unfold mvP
  rw [q.1, q.2.1, q.2.2]
  exact ⟨h1, h2⟩
theorem mv_row (hk : k = c.toNat) (h : ∀ t, t < (n * r.toNat + i) * c.toNat + k → ¬ mvP b s r c l t) : ∀ t, t < (n * r.toNat + (i + 1)) * c.toNat → ¬ mvP b s r c l t := fun t ht => h t (by subst hk; rw [← Nat.add_assoc, Nat.add_mul _ 1] at ht; omega)
theorem mv_round (hi : i = r.toNat) (h : ∀ t, t < (n * r.toNat + i) * c.toNat → ¬ mvP b s r c l t) : ∀ t, t < (n + 1) * r.toNat * c.toNat → ¬ mvP b s r c l t := fun t ht => h t (by subst hi; rw [Nat.add_mul n 1, Nat.one_mul] at ht; exact ht)
theorem mv_lt (hn : n < st.toNat) (hi : i < r.toNat) (hk : k < c.toNat) : (n * r.toNat + i) * c.toNat + k < st.toNat * r.toNat * c.toNat := by
  have h1 : (n * r.toNat + i + 1) ≤ st.toNat * r.toNat := by
    have := Nat.mul_le_mul_right r.toNat (show n + 1 ≤ st.toNat by omega)
    rw [Nat.add_mul] at this; omega
  have h2 := Nat.mul_le_mul_right c.toNat h1
  rw [Nat.add_mul _ 1] at h2; omega
end
/-- A plain square of 4, 8 or 16 rows. -/
def sqP (r c : Int) (l : List Int) : Prop := fieldN 1 r c l ∧ r = c ∧ (r = 4 ∨ r = 8 ∨ r = 16)
instance (r c : Int) (l : List Int) : Decidable (sqP r c l) := by unfold sqP; infer_instance
/-- The inner part behind a step. -/
def inL (b s : List Int) (r c : Int) (l : List Int) : List Int := mkL (c - 2) (cutG c (nxL false b s r c l) 1 1) ((r - 2).toNat * (c - 2).toNat)
def inP (b s : List Int) (r c : Int) (l : List Int) : Prop := lifP b s ∧ sqP r c l
instance (b s : List Int) (r c : Int) (l : List Int) : Decidable (inP b s r c l) := by unfold inP; infer_instance
theorem inL_len {b s : List Int} {r c : Int} {l : List Int} (h : inP b s r c l) : (inL b s r c l).length ≤ 576 := by
  obtain ⟨_, ⟨⟨h1, _⟩, _⟩⟩ := h
  unfold inL
  rw [mkL_length]
  have q1 := h1.1
  have q2 := h1.2
  have := Nat.mul_le_mul (show (r - 2).toNat ≤ 24 by omega) (show (c - 2).toNat ≤ 24 by omega)
  omega
theorem inPL {b s : List Int} {r c : Int} {l : List Int} : (selL (inP b s r c l) (inL b s r c l)).length ≤ 576 := selL_len inL_len
theorem shL_len {r c a b : Int} {l : List Int} (h : sidesF r c) : ((shL r c l a b).length : Int) = r * c := by
  have q1 := h.1
  have q2 := h.2
  exact mkL_len' (by omega) (by omega)
end Go.Proofs.Ytejbicikffhggaa
