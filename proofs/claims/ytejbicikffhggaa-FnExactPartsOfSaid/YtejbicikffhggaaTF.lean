/- Two fields put together: the program's and the reference's. -/
import Derived.Test.YtejbicikffhggaaTE
namespace Go.Proofs.Ytejbicikffhggaa
open HL
set_option maxRecDepth 100000
theorem mkL_congr {c : Int} {f g : Int → Int → Int} {N : Nat} (hc : 0 < c) (h : ∀ x y, 0 ≤ x → 0 ≤ y → y < c → x * c + y < N → f x y = g x y) : mkL c f N = mkL c g N := by
  unfold mkL
  apply List.map_congr_left
  intro j hj
  have := List.mem_range.mp hj
  have d := Int.mul_ediv_add_emod (j : Int) c
  rw [Int.mul_comm] at d
  exact h _ _ (Int.ediv_nonneg (by omega) (by omega)) (Int.emod_nonneg _ (by omega)) (Int.emod_lt_of_pos _ hc) (by omega)
theorem mkL_set {c : Int} {f : Int → Int → Int} {N : Nat} {i k v : Int} (hc : 0 < c) (k0 : 0 ≤ k) (k1 : k < c) (h : 0 ≤ i * c) : (mkL c f N).set (i * c + k).toNat v = mkL c (fun x y => if x = i ∧ y = k then v else f x y) N := by
  have hd := divmod (c := c) (i := i) (k := k) hc k0 k1
  apply List.ext_getElem?
  intro j
  rw [List.getElem?_set]
  simp only [mkL, List.getElem?_map, List.length_map, List.length_range]
  by_cases hj : j < N
  · rw [List.getElem?_range hj]
    simp only [Option.map_some]
    by_cases e : (i * c + k).toNat = j
    · rw [if_pos e, if_pos (by omega), if_pos]
      have ej : (j : Int) = i * c + k := by omega
      rw [ej]; exact hd
    · rw [if_neg e, if_neg]
      rintro ⟨h1, h2⟩
      have d := Int.mul_ediv_add_emod (j : Int) c
      rw [h1, h2, Int.mul_comm] at d
      omega
  · rw [List.getElem?_eq_none (by simpa using hj)]
    simp only [Option.map_none]
    split
    · rw [if_neg (by omega)]
    · rfl
theorem mkL_len {c : Int} {g : Int → Int → Int} {rr cc : Int} (h1 : 0 ≤ rr) (h2 : 0 ≤ cc) : ((mkL c g (rr.toNat * cc.toNat)).length : Int) = rr * cc := by
  rw [mkL_length, Int.natCast_mul, Int.toNat_of_nonneg h1, Int.toNat_of_nonneg h2]
theorem mkL_zero {c : Int} {N : Nat} : mkL c (fun _ _ => 0) N = List.replicate N 0 := by
  rw [List.eq_replicate_iff]
  refine ⟨mkL_length _ _ _, fun x hx => ?_⟩
  simp only [mkL, List.mem_map] at hx
  obtain ⟨j, _, rfl⟩ := hx
  rfl
theorem flatF_01 {r c : Int} {l : List Int} (h : fieldN 1 r c l) (x y : Int) : 0 ≤ flatF r c l x y ∧ flatF r c l x y ≤ 1 := by
  unfold flatF
  split
  · rename_i h1
    have b := ix_lt (a := x) (b := y) (r := r) (c := c) (by omega) (by omega) (by omega) (by omega)
    exact fieldN_at h (by omega) (by omega)
  · omega
/-- Two fields' cells. -/
def metG (ra ca : Int) (la : List Int) (rb cb : Int) (lb : List Int) (row col x y : Int) : Int := max (flatF ra ca la x y) (flatF rb cb lb (x - row) (y - col))
def metA (ca : Int) (la : List Int) (i k x y : Int) : Int := if (x < i ∧ y < ca) ∨ (x = i ∧ y < k) then at_ 0 la (x * ca + y) else 0
def metB (ra ca : Int) (la : List Int) (cb : Int) (lb : List Int) (row col i k x y : Int) : Int :=
  if ((0 ≤ x - row ∧ x - row < i ∧ 0 ≤ y - col ∧ y - col < cb) ∨ (x - row = i ∧ 0 ≤ y - col ∧ y - col < k)) ∧ at_ 0 lb ((x - row) * cb + (y - col)) = 1 then 1 else flatF ra ca la x y
def metO (ra ca rb cb row col : Int) : Prop := (0 ≤ row ∧ row ≤ 24) ∧ (0 ≤ col ∧ col ≤ 24) ∧ (1 ≤ max ra (row + rb) ∧ max ra (row + rb) ≤ 24) ∧ (1 ≤ max ca (col + cb) ∧ max ca (col + cb) ≤ 24)
def metOk (ra ca : Int) (la : List Int) (rb cb : Int) (lb : List Int) (row col : Int) : Prop := fieldN 1 ra ca la ∧ fieldN 1 rb cb lb ∧ metO ra ca rb cb row col
instance (ra ca rb cb row col : Int) : Decidable (metO ra ca rb cb row col) := by unfold metO; infer_instance
instance (ra ca : Int) (la : List Int) (rb cb : Int) (lb : List Int) (row col : Int) : Decidable (metOk ra ca la rb cb lb row col) := by unfold metOk; infer_instance
def metL0 (ra ca : Int) (la : List Int) (rb cb : Int) (lb : List Int) (row col : Int) : List Int := mkL (max ca (col + cb)) (metG ra ca la rb cb lb row col) ((max ra (row + rb)).toNat * (max ca (col + cb)).toNat)
def metL (ra ca : Int) (la : List Int) (rb cb : Int) (lb : List Int) (row col : Int) : List Int := if metOk ra ca la rb cb lb row col then metL0 ra ca la rb cb lb row col else []
def metI (x ra ca : Int) (la : List Int) (rb cb : Int) (lb : List Int) (row col : Int) : Int := if metOk ra ca la rb cb lb row col then x else 0
theorem metL_len {ra ca : Int} {la : List Int} {rb cb : Int} {lb : List Int} {row col : Int} : (metL ra ca la rb cb lb row col).length ≤ 576 := by
  unfold metL
  split
  · rename_i h
    obtain ⟨_, _, _, _, h3, h4⟩ := h
    unfold metL0
    rw [mkL_length]
    have := Nat.mul_le_mul (show (max ra (row + rb)).toNat ≤ 24 by omega) (show (max ca (col + cb)).toNat ≤ 24 by omega)
    omega
  · simp
theorem metA_zero {c ca : Int} {la : List Int} {N : Nat} (hc : 0 < c) (h : 0 ≤ ca) : List.replicate N 0 = mkL c (metA ca la 0 0) N := by
  rw [← mkL_zero (c := c)]
  apply mkL_congr hc
  intro x y h1 h2 _ _
  unfold metA
  rw [if_neg (by omega)]
theorem metA_set {c ca : Int} {la : List Int} {N : Nat} {i k : Int} (k0 : 0 ≤ k) (k1 : k < ca) (k2 : k < c) (i0 : 0 ≤ i) (h : 0 ≤ i * c) : (mkL c (metA ca la i k) N).set (i * c + k).toNat (at_ 0 la (i * ca + k)) = mkL c (metA ca la i (k + 1)) N := by
  rw [mkL_set (by omega) k0 k2 h]
  apply mkL_congr (by omega)
  intro x y h1 h2 _ _
  unfold metA
  by_cases e : x = i ∧ y = k
  · obtain ⟨rfl, rfl⟩ := e
    rw [if_pos ⟨rfl, rfl⟩, if_pos (by omega)]
  · rw [if_neg e]
    by_cases e2 : (x < i ∧ y < ca) ∨ (x = i ∧ y < k)
    · rw [if_pos e2, if_pos (by omega)]
    · rw [if_neg e2, if_neg (by omega)]
theorem metA_row {c ca : Int} {la : List Int} {N : Nat} {i k : Int} (hc : 0 < c) (k1 : k = ca) : mkL c (metA ca la i k) N = mkL c (metA ca la (i + 1) 0) N := by
  apply mkL_congr hc
  intro x y h1 h2 _ _
  unfold metA
  by_cases e2 : (x < i ∧ y < ca) ∨ (x = i ∧ y < k)
  · rw [if_pos e2, if_pos (by omega)]
  · rw [if_neg e2, if_neg (by omega)]
theorem metA_end {c ra ca cb : Int} {la lb : List Int} {row col : Int} {N : Nat} (hc : 0 < c) : mkL c (metA ca la ra 0) N = mkL c (metB ra ca la cb lb row col 0 0) N := by
  apply mkL_congr hc
  intro x y h1 h2 _ _
  unfold metA metB
  rw [if_neg (show ¬ (((0 ≤ x - row ∧ x - row < 0 ∧ 0 ≤ y - col ∧ y - col < cb) ∨ (x - row = 0 ∧ 0 ≤ y - col ∧ y - col < 0)) ∧ at_ 0 lb ((x - row) * cb + (y - col)) = 1) from fun h => by have := h.1; omega)]
  unfold flatF
  by_cases e2 : (x < ra ∧ y < ca) ∨ (x = ra ∧ y < 0)
  · rw [if_pos e2, if_pos (by omega)]
  · rw [if_neg e2, if_neg (by omega)]
theorem metB_set {c ra ca cb : Int} {la lb : List Int} {row col : Int} {N : Nat} {i k : Int} (k0 : 0 ≤ k) (k1 : k < cb) (k2 : col + k < c) (i0 : 0 ≤ i) (c0 : 0 ≤ col) (h : 0 ≤ (row + i) * c) (h1 : at_ 0 lb (i * cb + k) = 1) :
    (mkL c (metB ra ca la cb lb row col i k) N).set ((row + i) * c + col + k).toNat 1 = mkL c (metB ra ca la cb lb row col i (k + 1)) N := by
  rw [show (row + i) * c + col + k = (row + i) * c + (col + k) by omega, mkL_set (by omega) (by omega) k2 h]
  apply mkL_congr (by omega)
  intro x y _ _ _ _
  unfold metB
  by_cases e : x = row + i ∧ y = col + k
  · obtain ⟨rfl, rfl⟩ := e
    rw [if_pos ⟨rfl, rfl⟩, if_pos]
    rw [show row + i - row = i by omega, show col + k - col = k by omega]
    exact ⟨by omega, h1⟩
  · rw [if_neg e]
    by_cases e2 : ((0 ≤ x - row ∧ x - row < i ∧ 0 ≤ y - col ∧ y - col < cb) ∨ (x - row = i ∧ 0 ≤ y - col ∧ y - col < k)) ∧ at_ 0 lb ((x - row) * cb + (y - col)) = 1
    · rw [if_pos e2, if_pos ⟨by have := e2.1; omega, e2.2⟩]
    · rw [if_neg e2, if_neg (fun h => e2 ⟨by have := h.1; omega, h.2⟩)]
theorem metB_skip {c ra ca cb : Int} {la lb : List Int} {row col : Int} {N : Nat} {i k : Int} (hc : 0 < c) (h1 : ¬ at_ 0 lb (i * cb + k) = 1) :
    mkL c (metB ra ca la cb lb row col i k) N = mkL c (metB ra ca la cb lb row col i (k + 1)) N := by
  apply mkL_congr hc
  intro x y _ _ _ _
  unfold metB
  by_cases e : x - row = i ∧ y - col = k
  · obtain ⟨rfl, rfl⟩ := e
    rw [if_neg (fun h => h1 h.2), if_neg (fun h => h1 h.2)]
  · by_cases e2 : ((0 ≤ x - row ∧ x - row < i ∧ 0 ≤ y - col ∧ y - col < cb) ∨ (x - row = i ∧ 0 ≤ y - col ∧ y - col < k)) ∧ at_ 0 lb ((x - row) * cb + (y - col)) = 1
    · rw [if_pos e2, if_pos ⟨by have := e2.1; omega, e2.2⟩]
    · rw [if_neg e2, if_neg (fun h => e2 ⟨by have := h.1; omega, h.2⟩)]
theorem metB_row {c ra ca cb : Int} {la lb : List Int} {row col : Int} {N : Nat} {i k : Int} (hc : 0 < c) (i0 : 0 ≤ i) (k1 : k = cb) : mkL c (metB ra ca la cb lb row col i k) N = mkL c (metB ra ca la cb lb row col (i + 1) 0) N := by
  apply mkL_congr hc
  intro x y _ _ _ _
  unfold metB
  by_cases e2 : ((0 ≤ x - row ∧ x - row < i ∧ 0 ≤ y - col ∧ y - col < cb) ∨ (x - row = i ∧ 0 ≤ y - col ∧ y - col < k)) ∧ at_ 0 lb ((x - row) * cb + (y - col)) = 1
  · rw [if_pos e2, if_pos ⟨by have := e2.1; omega, e2.2⟩]
  · rw [if_neg e2, if_neg (fun h => e2 ⟨by have := h.1; omega, h.2⟩)]
theorem metB_end {c ra ca rb cb : Int} {la lb : List Int} {row col : Int} {N : Nat} (hc : 0 < c) (ha : fieldN 1 ra ca la) (hb : fieldN 1 rb cb lb) : mkL c (metB ra ca la cb lb row col rb 0) N = mkL c (metG ra ca la rb cb lb row col) N := by
  apply mkL_congr hc
  intro x y _ _ _ _
  have fa := flatF_01 ha x y
  have fb := flatF_01 hb (x - row) (y - col)
  unfold metB metG
  by_cases e : (0 ≤ x - row ∧ x - row ≤ rb - 1) ∧ 0 ≤ y - col ∧ y - col ≤ cb - 1
  · have e3 : flatF rb cb lb (x - row) (y - col) = at_ 0 lb ((x - row) * cb + (y - col)) := by unfold flatF; rw [if_pos e]
    rw [e3] at fb ⊢
    by_cases e4 : at_ 0 lb ((x - row) * cb + (y - col)) = 1
    · rw [if_pos ⟨by omega, e4⟩]; omega
    · rw [if_neg (fun h => e4 h.2)]; omega
  · have e3 : flatF rb cb lb (x - row) (y - col) = 0 := by unfold flatF; rw [if_neg e]
    rw [e3, if_neg (fun h => e (by have := h.1; omega))]; omega
end Go.Proofs.Ytejbicikffhggaa
