/- Patterns that come again elsewhere. -/
import Derived.Test.YtnndhafldmkdeaaUP
import Derived.Test.YtnndhafldmkdeaaTF
namespace Go.Proofs.Ytnndhafldmkdeaa
open HL
set_option maxRecDepth 100000
/-- A cell of 1 on the border. -/
def bdC (r c : Int) (l : List Int) (j : Nat) : Prop := at_ 0 l (j : Int) = 1 ∧ ((j : Int) / c = 0 ∨ (j : Int) % c = 0 ∨ (j : Int) / c = r - 1 ∨ (j : Int) % c = c - 1)
instance (r c : Int) (l : List Int) (j : Nat) : Decidable (bdC r c l j) := by unfold bdC; infer_instance
def bdU (r c : Int) (l : List Int) (n : Nat) : Prop := ∀ j, j < n → ¬ bdC r c l j
instance (r c : Int) (l : List Int) (n : Nat) : Decidable (bdU r c l n) := by unfold bdU; infer_instance
/-- Is a cell on the border 1? -/
def brdP (r c : Int) (l : List Int) : Prop := ¬ bdU r c l (r * c).toNat
instance (r c : Int) (l : List Int) : Decidable (brdP r c l) := by unfold brdP; infer_instance
section
variable {r c : Int} {l : List Int}
theorem bdU_zero : bdU r c l 0 := fun j h => by omega
theorem bdU_succ {n : Nat} (h : bdU r c l n) (h1 : ¬ bdC r c l n) : bdU r c l (n + 1) := fun j hj => by
  by_cases e : j = n
  · subst e; exact h1
  · exact h j (by omega)
theorem bdC_at {i k n : Nat} (hk : (k : Int) < c) (hn : (n : Int) = i * c + k) : bdC r c l n ↔ (at_ 0 l ((i : Int) * c + k) = 1 ∧ ((i : Int) = 0 ∨ (k : Int) = 0 ∨ (i : Int) = r - 1 ∨ (k : Int) = c - 1)) := by
  have d := divmod (c := c) (i := (i : Int)) (k := (k : Int)) (by omega) (by omega) hk
  unfold bdC
  rw [hn, d.1, d.2]
theorem brd_yes {n : Nat} (h : bdC r c l n) (hn : (n : Int) < r * c) : brdP r c l := fun hh => hh n (by omega) h
end
/-- A pattern in the middle of a great field, the first rows of it. -/
def shpA (c : Int) (l : List Int) (row col i k x y : Int) : Int := if (0 ≤ x - row ∧ x - row < i ∧ 0 ≤ y - col ∧ y - col < c) ∨ (x - row = i ∧ 0 ≤ y - col ∧ y - col < k) then at_ 0 l ((x - row) * c + (y - col)) else 0
def shp0 (r c : Int) (l : List Int) : List Int := mkL 24 (fun x y => flatF r c l (x - (24 - r) / 2) (y - (24 - c) / 2)) ((24 : Int).toNat * (24 : Int).toNat)
theorem shpA_zero {c row col : Int} {l : List Int} {N : Nat} (h : 0 ≤ row) : List.replicate N 0 = mkL 24 (shpA c l row col 0 0) N := by
  rw [← mkL_zero (c := 24)]
  apply mkL_congr (by omega)
  intro x y h1 h2 _ _
  unfold shpA
  rw [if_neg (by omega)]
theorem shpA_set {c row col i k : Int} {l : List Int} {N : Nat} (k0 : 0 ≤ k) (k1 : k < c) (i0 : 0 ≤ i) (r0 : 0 ≤ row) (c0 : 0 ≤ col) (k2 : col + k < 24) :
    (mkL 24 (shpA c l row col i k) N).set ((row + i) * 24 + col + k).toNat (at_ 0 l (i * c + k)) = mkL 24 (shpA c l row col i (k + 1)) N := by
  rw [show (row + i) * 24 + col + k = (row + i) * 24 + (col + k) by omega, mkL_set (by omega) (by omega) k2 (by omega)]
  apply mkL_congr (by omega)
  intro x y _ _ _ _
  unfold shpA
  by_cases e : x = row + i ∧ y = col + k
  · obtain ⟨rfl, rfl⟩ := e
    rw [if_pos ⟨rfl, rfl⟩, if_pos (by omega), show row + i - row = i by omega, show col + k - col = k by omega]
  · rw [if_neg e]
    by_cases e2 : (0 ≤ x - row ∧ x - row < i ∧ 0 ≤ y - col ∧ y - col < c) ∨ (x - row = i ∧ 0 ≤ y - col ∧ y - col < k)
    · rw [if_pos e2, if_pos (by omega)]
    · rw [if_neg e2, if_neg (by omega)]
theorem shpA_row {c row col i k : Int} {l : List Int} {N : Nat} (i0 : 0 ≤ i) (hk : k = c) : mkL 24 (shpA c l row col i k) N = mkL 24 (shpA c l row col (i + 1) 0) N := by
  apply mkL_congr (by omega)
  intro x y _ _ _ _
  unfold shpA
  by_cases e2 : (0 ≤ x - row ∧ x - row < i ∧ 0 ≤ y - col ∧ y - col < c) ∨ (x - row = i ∧ 0 ≤ y - col ∧ y - col < k)
  · rw [if_pos e2, if_pos (by omega)]
  · rw [if_neg e2, if_neg (by omega)]
theorem shpA_end {r c row col : Int} {l : List Int} {N : Nat} : mkL 24 (shpA c l row col r 0) N = mkL 24 (fun x y => flatF r c l (x - row) (y - col)) N := by
  apply mkL_congr (by omega)
  intro x y _ _ _ _
  unfold shpA flatF
  by_cases e2 : (0 ≤ x - row ∧ x - row < r ∧ 0 ≤ y - col ∧ y - col < c) ∨ (x - row = r ∧ 0 ≤ y - col ∧ y - col < 0)
  · rw [if_pos e2, if_pos (by omega)]
  · rw [if_neg e2, if_neg (by omega)]
theorem s24 : sidesF 24 24 := ⟨by omega, by omega⟩
theorem shp0_field {r c : Int} {l : List Int} (h : fieldN 1 r c l) : fieldN 1 24 24 (shp0 r c l) := by
  have := mkL_field (n := 1) (g := fun x y => flatF r c l (x - (24 - r) / 2) (y - (24 - c) / 2)) s24 (fun i k => flatF_01 h _ _)
  exact this
theorem trm24 (l : List Int) : (0 ≤ (trm 24 24 l).1 ∧ (trm 24 24 l).1 ≤ 24) ∧ 0 ≤ (trm 24 24 l).2.2.1 ∧ (trm 24 24 l).2.2.1 ≤ 24 := by
  have b := trS_bnd (l := l) s24 (24 * 24 : Int).toNat (by omega)
  exact ⟨⟨b.1.1, b.1.2.1⟩, b.2.1, b.2.2.1⟩
theorem trl24 (l : List Int) : (trL 24 24 l).length ≤ 100000 := by
  unfold trL
  rw [mkL_length]
  have b := trS_bnd (l := l) s24 (24 * 24 : Int).toNat (by omega)
  have h1 : (trR 24 24 l).toNat ≤ 100 := by unfold trR trm; omega
  have h2 : (trC 24 24 l).toNat ≤ 100 := by unfold trC trm; omega
  have := Nat.mul_le_mul h1 h2
  omega
/-- Is a field's smallest part that of another one? -/
def matP (l m : List Int) : Prop := 0 ≤ (trm 24 24 m).2.1 ∧ trR 24 24 m = trR 24 24 l ∧ trC 24 24 m = trC 24 24 l ∧ trL 24 24 m = trL 24 24 l
instance (l m : List Int) : Decidable (matP l m) := by unfold matP; infer_instance
def shpS (b s : List Int) (r c : Int) (l : List Int) (n : Nat) : List Int := rnL false b s 24 24 (shp0 r c l) n
def shpE (b s : List Int) (r c : Int) (l : List Int) (t : Nat) : Prop := brdP 24 24 (shpS b s r c l (t + 1)) ∨ matP (shp0 r c l) (shpS b s r c l (t + 1))
instance (b s : List Int) (r c : Int) (l : List Int) : DecidablePred (shpE b s r c l) := fun t => by unfold shpE; infer_instance
def shpF (b s : List Int) (r c : Int) (l : List Int) (st : Int) : Int := fstN (shpE b s r c l) st.toNat
def shpT (b s : List Int) (r c : Int) (l : List Int) (st : Int) : List Int := shpS b s r c l ((shpF b s r c l st).toNat + 1)
def shpOk (b s : List Int) (r c : Int) (l : List Int) (st : Int) : Prop := canP b s r c l ∧ (1 ≤ st ∧ st ≤ 64) ∧ 0 ≤ (trm 24 24 (shp0 r c l)).2.1 ∧ ¬ brdP 24 24 (shp0 r c l) ∧ 0 ≤ shpF b s r c l st ∧ ¬ brdP 24 24 (shpT b s r c l st)
instance (b s : List Int) (r c : Int) (l : List Int) (st : Int) : Decidable (shpOk b s r c l st) := by unfold shpOk; infer_instance
section
variable {b s : List Int} {r c st : Int} {l : List Int} {t : Nat}
theorem shp_fail (hb : brdP 24 24 (shpS b s r c l (t + 1))) (h : ∀ x, x < t → ¬ shpE b s r c l x) (ht : t < st.toNat) : ¬ shpOk b s r c l st := fun hh => by
  have e : shpF b s r c l st = (t : Int) := fstN_at (p := shpE b s r c l) (.inl hb) h ht
  have := hh.2.2.2.2.2
  unfold shpT at this
  rw [e] at this
  exact this hb
theorem shp_none (h : ∀ x, x < st.toNat → ¬ shpE b s r c l x) : ¬ shpOk b s r c l st := fun hh => by
  have := hh.2.2.2.2.1
  unfold shpF at this
  rw [fstN_none h] at this
  omega
theorem shp_hit (h1 : canP b s r c l) (h2 : 1 ≤ st ∧ st ≤ 64) (h3 : 0 ≤ (trm 24 24 (shp0 r c l)).2.1) (h4 : ¬ brdP 24 24 (shp0 r c l)) (hb : ¬ brdP 24 24 (shpS b s r c l (t + 1))) (hm : matP (shp0 r c l) (shpS b s r c l (t + 1)))
    (h : ∀ x, x < t → ¬ shpE b s r c l x) (ht : t < st.toNat) : shpOk b s r c l st ∧ shpF b s r c l st = (t : Int) ∧ shpT b s r c l st = shpS b s r c l (t + 1) := by
  have e : shpF b s r c l st = (t : Int) := fstN_at (p := shpE b s r c l) (.inr hm) h ht
  have e2 : shpT b s r c l st = shpS b s r c l (t + 1) := by unfold shpT; rw [e]; rfl
  exact ⟨⟨h1, h2, h3, h4, by omega, by rw [e2]; exact hb⟩, e, e2⟩
theorem shp_next (hb : ¬ brdP 24 24 (shpS b s r c l (t + 1))) (hm : ¬ matP (shp0 r c l) (shpS b s r c l (t + 1))) (h : ∀ x, x < t → ¬ shpE b s r c l x) : ∀ x, x < t + 1 → ¬ shpE b s r c l x := fun x hx hp => by
  by_cases e : x = t
  · subst e; exact hp.elim hb hm
  · exact h x (by omega) hp
end
end Go.Proofs.Ytnndhafldmkdeaa
