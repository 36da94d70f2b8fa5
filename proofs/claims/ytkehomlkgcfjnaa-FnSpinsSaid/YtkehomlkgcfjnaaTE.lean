/- The smallest part of a field with all cells of 1. -/
import Derived.Test.YtkehomlkgcfjnaaTD
import Derived.Test.YtkehomlkgcfjnaaSY
namespace Go.Proofs.Ytkehomlkgcfjnaa
open HL
set_option maxRecDepth 100000
/-- Cells that are filled one behind the other. -/
def fillL (c : Int) (g : Int → Int → Int) (N t : Nat) : List Int := (List.range N).map fun (j : Nat) => if j < t then g ((j : Int) / c) ((j : Int) % c) else 0
theorem fillL_length (c : Int) (g : Int → Int → Int) (N t : Nat) : (fillL c g N t).length = N := by simp [fillL]
theorem fillL_zero (c : Int) (g : Int → Int → Int) (N : Nat) : fillL c g N 0 = List.replicate N 0 := by
  rw [List.eq_replicate_iff]
  refine ⟨fillL_length c g N 0, fun x hx => ?_⟩
  simp only [fillL, List.mem_map] at hx
  obtain ⟨j, _, rfl⟩ := hx
  rw [if_neg (by omega)]
theorem fillL_end {c : Int} {g : Int → Int → Int} {N t : Nat} (h : N ≤ t) : fillL c g N t = mkL c g N := by
  unfold fillL mkL
  apply List.map_congr_left
  intro j hj
  have := List.mem_range.mp hj
  rw [if_pos (by omega)]
theorem fillL_set {c : Int} {g : Int → Int → Int} {N : Nat} {i k : Int} {t : Nat} (hc : 0 < c) (k0 : 0 ≤ k) (k1 : k < c) (ht : (t : Int) = i * c + k) (h : 0 ≤ i * c) : (fillL c g N t).set (i * c + k).toNat (g i k) = fillL c g N (t + 1) := by
  have hd := divmod (c := c) (i := i) (k := k) hc k0 k1
  rw [show (i * c + k).toNat = t by omega]
  apply List.ext_getElem?
  intro j
  rw [List.getElem?_set]
  simp only [fillL, List.getElem?_map, List.length_map, List.length_range]
  by_cases e : t = j
  · subst e
    rw [if_pos rfl]
    by_cases hj : t < N
    · rw [if_pos hj, List.getElem?_range hj]
      simp only [Option.map_some]
      rw [if_pos (by omega), ht, hd.1, hd.2]
    · rw [if_neg hj, List.getElem?_eq_none (by simpa using hj)]; rfl
  · rw [if_neg e]
    by_cases hj : j < N
    · rw [List.getElem?_range hj]
      simp only [Option.map_some]
      by_cases h1 : j < t
      · rw [if_pos h1, if_pos (by omega)]
      · rw [if_neg h1, if_neg (by omega)]
    · rw [List.getElem?_eq_none (by simpa using hj)]; rfl
theorem ix_lt {a b r c : Int} (a0 : 0 ≤ a) (a1 : a < r) (b0 : 0 ≤ b) (b1 : b < c) : 0 ≤ a * c ∧ a * c + b < r * c := by
  have := Int.mul_nonneg a0 (show (0 : Int) ≤ c by omega)
  have := Int.mul_le_mul (a := a) (b := c) (c := r - 1) (d := c) (by omega) (by omega) (by omega) (by omega)
  rw [Int.sub_mul] at this
  omega
theorem ix_le {a b : Int} (a0 : 0 ≤ a) (a1 : a ≤ 24) (b0 : 0 ≤ b) (b1 : b ≤ 24) : 0 ≤ a * b ∧ a * b ≤ 576 := by
  have := Int.mul_nonneg a0 b0
  have := Int.mul_le_mul a1 b1 b0 (by omega)
  omega
theorem fillL_len {c : Int} {g : Int → Int → Int} {rr cc : Int} {t : Nat} (h1 : 0 ≤ rr) (h2 : 0 ≤ cc) : ((fillL c g (rr.toNat * cc.toNat) t).length : Int) = rr * cc := by
  rw [fillL_length, Int.natCast_mul, Int.toNat_of_nonneg h1, Int.toNat_of_nonneg h2]
/-- A part of a field. -/
def cutG (c : Int) (l : List Int) (row col i k : Int) : Int := at_ 0 l ((row + i) * c + col + k)
/-- Where the cells of 1 lie, of the first t cells: top, bottom, left, right. -/
def trStep (c : Int) (l : List Int) (s : Int × Int × Int × Int) (j : Nat) : Int × Int × Int × Int :=
  if at_ 0 l (j : Int) = 1 then (min s.1 ((j : Int) / c), max s.2.1 ((j : Int) / c), min s.2.2.1 ((j : Int) % c), max s.2.2.2 ((j : Int) % c)) else s
def trS (r c : Int) (l : List Int) (t : Nat) : Int × Int × Int × Int := (List.range t).foldl (trStep c l) (r, -1, c, -1)
theorem trS_t {r c : Int} {l : List Int} {t : Nat} (h : at_ 0 l (t : Int) = 1) :
    trS r c l (t + 1) = (min (trS r c l t).1 ((t : Int) / c), max (trS r c l t).2.1 ((t : Int) / c), min (trS r c l t).2.2.1 ((t : Int) % c), max (trS r c l t).2.2.2 ((t : Int) % c)) := by
  unfold trS
  rw [List.range_succ, List.foldl_append, List.foldl_cons, List.foldl_nil, trStep, if_pos h]
theorem trS_f {r c : Int} {l : List Int} {t : Nat} (h : ¬ at_ 0 l (t : Int) = 1) : trS r c l (t + 1) = trS r c l t := by
  unfold trS
  rw [List.range_succ, List.foldl_append, List.foldl_cons, List.foldl_nil, trStep, if_neg h]
theorem trS_t2 {r c : Int} {l : List Int} {i k : Int} {t : Nat} (hc : 0 < c) (k0 : 0 ≤ k) (k1 : k < c) (ht : (t : Int) = i * c + k) (h : at_ 0 l (i * c + k) = 1) :
    trS r c l (t + 1) = (min (trS r c l t).1 i, max (trS r c l t).2.1 i, min (trS r c l t).2.2.1 k, max (trS r c l t).2.2.2 k) := by
  have hd := divmod (c := c) (i := i) (k := k) hc k0 k1
  rw [trS_t (by rw [ht]; exact h), ht, hd.1, hd.2]
theorem trS_f2 {r c : Int} {l : List Int} {i k : Int} {t : Nat} (ht : (t : Int) = i * c + k) (h : ¬ at_ 0 l (i * c + k) = 1) : trS r c l (t + 1) = trS r c l t := trS_f (by rw [ht]; exact h)
theorem trS_inv {r c : Int} {l : List Int} (hs : sidesF r c) : ∀ t : Nat, (t : Int) ≤ r * c →
    trS r c l t = (r, -1, c, -1) ∨ ((0 ≤ (trS r c l t).1 ∧ (trS r c l t).1 ≤ (trS r c l t).2.1 ∧ (trS r c l t).2.1 < r) ∧ 0 ≤ (trS r c l t).2.2.1 ∧ (trS r c l t).2.2.1 ≤ (trS r c l t).2.2.2 ∧ (trS r c l t).2.2.2 < c)
  | 0, _ => .inl rfl
  | t + 1, h => by
    have q1 := hs.1
    have q2 := hs.2
    have d1 := Int.ediv_nonneg (a := (t : Int)) (b := c) (by omega) (by omega)
    have d2 : (t : Int) / c < r := Int.ediv_lt_of_lt_mul (by omega) (by omega)
    have d3 := Int.emod_nonneg (t : Int) (b := c) (by omega)
    have d4 := Int.emod_lt_of_pos (t : Int) (b := c) (by omega)
    by_cases e : at_ 0 l (t : Int) = 1
    · rw [trS_t e]
      refine .inr ?_
      rcases trS_inv (l := l) hs t (by omega) with h1 | h1
      · rw [h1]; simp only; omega
      · simp only; omega
    · rw [trS_f e]
      exact trS_inv hs t (by omega)
theorem trS_bnd {r c : Int} {l : List Int} (hs : sidesF r c) (t : Nat) (h : (t : Int) ≤ r * c) : (0 ≤ (trS r c l t).1 ∧ (trS r c l t).1 ≤ r ∧ -1 ≤ (trS r c l t).2.1 ∧ (trS r c l t).2.1 < r) ∧ 0 ≤ (trS r c l t).2.2.1 ∧ (trS r c l t).2.2.1 ≤ c ∧ -1 ≤ (trS r c l t).2.2.2 ∧ (trS r c l t).2.2.2 < c := by
  have q1 := hs.1
  have q2 := hs.2
  rcases trS_inv (l := l) hs t h with h1 | h1
  · rw [h1]; simp only; omega
  · omega
theorem trS_ok {r c : Int} {l : List Int} (hs : sidesF r c) (t : Nat) (h : (t : Int) ≤ r * c) (hb : 0 ≤ (trS r c l t).2.1) : (trS r c l t).1 ≤ (trS r c l t).2.1 ∧ (trS r c l t).2.2.1 ≤ (trS r c l t).2.2.2 := by
  rcases trS_inv (l := l) hs t h with h1 | h1
  · rw [h1] at hb; simp only at hb; omega
  · omega
/-- The smallest part: its sides, its cells, and where it begins. -/
def trm (r c : Int) (l : List Int) : Int × Int × Int × Int := trS r c l (r * c).toNat
def trR (r c : Int) (l : List Int) : Int := (trm r c l).2.1 - (trm r c l).1 + 1
def trC (r c : Int) (l : List Int) : Int := (trm r c l).2.2.2 - (trm r c l).2.2.1 + 1
def trL (r c : Int) (l : List Int) : List Int := mkL (trC r c l) (cutG c l (trm r c l).1 (trm r c l).2.2.1) ((trR r c l).toNat * (trC r c l).toNat)
theorem trm_bnd {r c : Int} {l : List Int} (hs : sidesF r c) (hb : 0 ≤ (trm r c l).2.1) : 0 ≤ (trm r c l).1 ∧ 0 ≤ (trm r c l).2.2.1 ∧ 1 ≤ trR r c l ∧ 1 ≤ trC r c l ∧ (trm r c l).1 + trR r c l ≤ r ∧ (trm r c l).2.2.1 + trC r c l ≤ c := by
  have m := sidesF_mul hs
  have b := trS_bnd (l := l) hs (r * c).toNat (by omega)
  have d := trS_ok (l := l) hs (r * c).toNat (by omega) hb
  unfold trR trC trm
  omega
def trimOk (r c : Int) (l : List Int) : Prop := fieldN 1 r c l ∧ 0 ≤ (trm r c l).2.1
instance (r c : Int) (l : List Int) : Decidable (trimOk r c l) := by unfold trimOk; infer_instance
def trimI (x r c : Int) (l : List Int) : Int := if trimOk r c l then x else 0
def trimL (r c : Int) (l : List Int) : List Int := if trimOk r c l then trL r c l else []
theorem trimL_len {r c : Int} {l : List Int} : (trimL r c l).length ≤ 576 := by
  unfold trimL
  split
  · rename_i h
    have b := trm_bnd h.1.1 h.2
    have q1 := h.1.1.1
    have q2 := h.1.1.2
    unfold trL
    rw [mkL_length]
    have := Nat.mul_le_mul (show (trR r c l).toNat ≤ 24 by omega) (show (trC r c l).toNat ≤ 24 by omega)
    omega
  · simp
end Go.Proofs.Ytkehomlkgcfjnaa
