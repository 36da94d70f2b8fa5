/- Fields with a border of zeros: the program's and the reference's. -/
import Derived.Test.YtkehomlkgcfjnaaTC
namespace Go.Proofs.Ytkehomlkgcfjnaa
open HL
set_option maxRecDepth 100000
def groOk (r c : Int) (l : List Int) (b : Int) : Prop := fieldN 1 r c l ∧ (0 ≤ b ∧ b ≤ 24) ∧ (1 ≤ r + 2 * b ∧ r + 2 * b ≤ 24) ∧ (1 ≤ c + 2 * b ∧ c + 2 * b ≤ 24)
instance (r c : Int) (l : List Int) (b : Int) : Decidable (groOk r c l b) := by unfold groOk; infer_instance
def groG (r c : Int) (l : List Int) (b : Int) (i k : Int) : Int := flatF r c l (i - b) (k - b)
def groW (r c : Int) (l : List Int) (b : Int) : List Int := mkL (c + 2 * b) (groG r c l b) ((r + 2 * b).toNat * (c + 2 * b).toNat)
def groL (r c : Int) (l : List Int) (b : Int) : List Int := if groOk r c l b then groW r c l b else []
def groI (x r c : Int) (l : List Int) (b : Int) : Int := if groOk r c l b then x else 0
theorem groL_len {r c : Int} {l : List Int} {b : Int} : (groL r c l b).length ≤ 576 := by
  unfold groL
  split
  · rename_i h
    unfold groW
    rw [mkL_length]
    have := h.2.2.1
    have := h.2.2.2
    have := Nat.mul_le_mul (show (r + 2 * b).toNat ≤ 24 by omega) (show (c + 2 * b).toNat ≤ 24 by omega)
    omega
  · simp
def groP (r c : Int) (l : List Int) (b : Int) (t : Nat) (j : Nat) : Int :=
  if ((0 ≤ (j : Int) / (c + 2 * b) - b ∧ (j : Int) / (c + 2 * b) - b ≤ r - 1) ∧ 0 ≤ (j : Int) % (c + 2 * b) - b ∧ (j : Int) % (c + 2 * b) - b ≤ c - 1) ∧ ((j : Int) / (c + 2 * b) - b) * c + ((j : Int) % (c + 2 * b) - b) < t then
    at_ 0 l (((j : Int) / (c + 2 * b) - b) * c + ((j : Int) % (c + 2 * b) - b)) else 0
def groS (r c : Int) (l : List Int) (b : Int) (t : Nat) : List Int := (List.range ((r + 2 * b).toNat * (c + 2 * b).toNat)).map (groP r c l b t)
theorem groS_length (r c : Int) (l : List Int) (b : Int) (t : Nat) : (groS r c l b t).length = (r + 2 * b).toNat * (c + 2 * b).toNat := by simp [groS]
theorem groS_zero {r c : Int} {l : List Int} {b : Int} (h : groOk r c l b) : groS r c l b 0 = List.replicate ((r + 2 * b).toNat * (c + 2 * b).toNat) 0 := by
  rw [List.eq_replicate_iff]
  refine ⟨groS_length r c l b 0, fun x hx => ?_⟩
  simp only [groS, List.mem_map] at hx
  obtain ⟨j, _, rfl⟩ := hx
  unfold groP
  rw [if_neg]
  rintro ⟨⟨h1, h2⟩, h3⟩
  have := Int.mul_nonneg h1.1 (show (0 : Int) ≤ c by have := h.1.1.2; omega)
  omega
theorem groS_end {r c : Int} {l : List Int} {b : Int} (h : groOk r c l b) (t : Nat) (ht : (t : Int) = r * c) : groS r c l b t = groW r c l b := by
  unfold groS groW mkL
  apply List.map_congr_left
  intro j _
  unfold groP groG flatF
  by_cases h1 : (0 ≤ (j : Int) / (c + 2 * b) - b ∧ (j : Int) / (c + 2 * b) - b ≤ r - 1) ∧ 0 ≤ (j : Int) % (c + 2 * b) - b ∧ (j : Int) % (c + 2 * b) - b ≤ c - 1
  · rw [if_pos h1, if_pos]
    refine ⟨h1, ?_⟩
    have := Int.mul_le_mul (a := (j : Int) / (c + 2 * b) - b) (b := c) (c := r - 1) (d := c) (by omega) (by omega) (by have := h.1.1.2; omega) (by have := h.1.1.1; omega)
    rw [Int.sub_mul r 1 c] at this
    omega
  · rw [if_neg h1, if_neg (fun h2 => h1 h2.1)]
theorem groS_set {r c : Int} {l : List Int} {b : Int} (h : groOk r c l b) {i k : Int} (i0 : 0 ≤ i) (i1 : i < r) (k0 : 0 ≤ k) (k1 : k < c) (t : Nat) (ht : (t : Int) = i * c + k) :
    (groS r c l b t).set ((i + b) * (c + 2 * b) + k + b).toNat (at_ 0 l (i * c + k)) = groS r c l b (t + 1) := by
  have hb := h.2.1
  have hj0 : 0 ≤ (i + b) * (c + 2 * b) := Int.mul_nonneg (by omega) (by omega)
  have hd := divmod (c := c + 2 * b) (i := i + b) (k := k + b) (by omega) (by omega) (by omega)
  apply List.ext_getElem?
  intro j
  rw [List.getElem?_set]
  simp only [groS, List.getElem?_map, List.length_map, List.length_range]
  by_cases hj : j < (r + 2 * b).toNat * (c + 2 * b).toNat
  · rw [List.getElem?_range hj]
    simp only [Option.map_some]
    by_cases e : ((i + b) * (c + 2 * b) + k + b).toNat = j
    · rw [if_pos e, if_pos (by omega)]
      have ej : (j : Int) = (i + b) * (c + 2 * b) + (k + b) := by omega
      unfold groP
      rw [ej, hd.1, hd.2, show i + b - b = i by omega, show k + b - b = k by omega, if_pos ⟨⟨⟨i0, by omega⟩, k0, by omega⟩, by omega⟩]
    · rw [if_neg e]
      congr 1
      unfold groP
      by_cases h1 : (0 ≤ (j : Int) / (c + 2 * b) - b ∧ (j : Int) / (c + 2 * b) - b ≤ r - 1) ∧ 0 ≤ (j : Int) % (c + 2 * b) - b ∧ (j : Int) % (c + 2 * b) - b ≤ c - 1
      · have hne : ((j : Int) / (c + 2 * b) - b) * c + ((j : Int) % (c + 2 * b) - b) ≠ t := by
          intro hh
          rw [ht] at hh
          have d1 := divmod (c := c) (i := (j : Int) / (c + 2 * b) - b) (k := (j : Int) % (c + 2 * b) - b) (by omega) h1.2.1 (by omega)
          have d2 := divmod (c := c) (i := i) (k := k) (by omega) k0 k1
          rw [hh] at d1
          have e1 : (j : Int) / (c + 2 * b) = i + b := by omega
          have e2 : (j : Int) % (c + 2 * b) = k + b := by omega
          have e3 := Int.mul_ediv_add_emod (j : Int) (c + 2 * b)
          rw [e1, e2, Int.mul_comm] at e3
          omega
        by_cases h2 : ((j : Int) / (c + 2 * b) - b) * c + ((j : Int) % (c + 2 * b) - b) < t
        · rw [if_pos ⟨h1, h2⟩, if_pos ⟨h1, by omega⟩]
        · rw [if_neg (fun h3 => h2 h3.2), if_neg (fun h3 => by have := h3.2; omega)]
      · rw [if_neg (fun h3 => h1 h3.1), if_neg (fun h3 => h1 h3.1)]
  · rw [List.getElem?_eq_none (by simpa using hj)]
    simp only [Option.map_none]
    split
    · rw [if_neg (by omega)]
    · rfl
end Go.Proofs.Ytkehomlkgcfjnaa
