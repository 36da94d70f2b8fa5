/- How many different ones there are; blocks of squares. -/
import Derived.Test.YthgjegbckkpaiaaKV
import Derived.Test.YthgjegbckkpaiaaUM
import Derived.Test.YthgjegbckkpaiaaTF
namespace Go.Proofs.Ythgjegbckkpaiaa
open HL
set_option maxRecDepth 100000
section
variable {G : Nat → List Int}
/-- Something alike was there before. -/
def dupW (G : Nat → List Int) (k : Nat) : Prop := ∃ i, i < k ∧ G i = G k
instance (G : Nat → List Int) (k : Nat) : Decidable (dupW G k) := by unfold dupW; infer_instance
def dsF (z : Int) (G : Nat → List Int) : Nat → List FdL
  | 0 => []
  | n + 1 => if dupW G n then dsF z G n else dsF z G n ++ [⟨z, z, G n⟩]
def dsK (G : Nat → List Int) : Nat → List ByteArray
  | 0 => []
  | n + 1 => if dupW G n then dsK G n else dsK G n ++ [bytesS .empty (G n)]
theorem dsF_len (z : Int) : ∀ n, (dsF z G n).length = (dsK G n).length ∧ (dsF z G n).length ≤ n
  | 0 => ⟨rfl, Nat.le_refl _⟩
  | n + 1 => by
    have ih := dsF_len z n
    unfold dsF dsK
    split
    · exact ⟨ih.1, by omega⟩
    · simp only [List.length_append, List.length_singleton]; omega
theorem dsF_t {z : Int} {n : Nat} (h : dupW G n) : dsF z G n = dsF z G (n + 1) := by
  conv => rhs; unfold dsF
  rw [if_pos h]
theorem dsF_f {z : Int} {n : Nat} (h : ¬ dupW G n) : dsF z G n ++ [⟨z, z, G n⟩] = dsF z G (n + 1) := by
  conv => rhs; unfold dsF
  rw [if_neg h]
theorem dsF_mem {z : Int} {f : FdL} : ∀ n, f ∈ dsF z G n ↔ ∃ j, j < n ∧ f = ⟨z, z, G j⟩
  | 0 => by simp [dsF]
  | n + 1 => by
    have ih := dsF_mem (z := z) (f := f) n
    unfold dsF
    split
    · rename_i h
      rw [ih]
      constructor
      · rintro ⟨j, h1, h2⟩; exact ⟨j, by omega, h2⟩
      · rintro ⟨j, h1, h2⟩
        by_cases e : j = n
        · subst e
          obtain ⟨i, hi, he⟩ := h
          exact ⟨i, hi, by rw [h2, he]⟩
        · exact ⟨j, by omega, h2⟩
    · rw [List.mem_append, ih, List.mem_singleton]
      constructor
      · rintro (⟨j, h1, h2⟩ | h2)
        · exact ⟨j, by omega, h2⟩
        · exact ⟨n, by omega, h2⟩
      · rintro ⟨j, h1, h2⟩
        by_cases e : j = n
        · subst e; exact .inr h2
        · exact .inl ⟨j, by omega, h2⟩
theorem dsK_mem {x : ByteArray} : ∀ n, x ∈ dsK G n ↔ ∃ j, j < n ∧ x = bytesS .empty (G j)
  | 0 => by simp [dsK]
  | n + 1 => by
    have ih := dsK_mem (x := x) n
    unfold dsK
    split
    · rename_i h
      rw [ih]
      constructor
      · rintro ⟨j, h1, h2⟩; exact ⟨j, by omega, h2⟩
      · rintro ⟨j, h1, h2⟩
        by_cases e : j = n
        · subst e
          obtain ⟨i, hi, he⟩ := h
          exact ⟨i, hi, by rw [h2, he]⟩
        · exact ⟨j, by omega, h2⟩
    · rw [List.mem_append, ih, List.mem_singleton]
      constructor
      · rintro (⟨j, h1, h2⟩ | h2)
        · exact ⟨j, by omega, h2⟩
        · exact ⟨n, by omega, h2⟩
      · rintro ⟨j, h1, h2⟩
        by_cases e : j = n
        · subst e; exact .inr h2
        · exact .inl ⟨j, by omega, h2⟩
theorem dsK_put {n : Nat} (hb : ∀ j, ∀ x ∈ G j, 0 ≤ x ∧ x ≤ 255) : (bytesS .empty (G n) ∈ dsK G n ∧ dsK G (n + 1) = dsK G n) ∨ (bytesS .empty (G n) ∉ dsK G n ∧ dsK G (n + 1) = dsK G n ++ [bytesS .empty (G n)]) := by
  by_cases h : dupW G n
  · left
    refine ⟨(dsK_mem n).mpr ?_, if_pos h⟩
    obtain ⟨i, hi, he⟩ := h
    exact ⟨i, hi, by rw [he]⟩
  · right
    refine ⟨fun g => h ?_, if_neg h⟩
    obtain ⟨j, hj, he⟩ := (dsK_mem n).mp g
    exact ⟨j, hj, (bytesS_inj (hb n) (hb j) he).symm⟩
/-- Something among the first is alike. -/
def exL (L : List FdL) (x : List Int) (j : Nat) : Prop := ∃ i, i < j ∧ (at_ fd0 L (i : Int)).l = x
instance (L : List FdL) (x : List Int) (j : Nat) : Decidable (exL L x j) := by unfold exL; infer_instance
theorem exL_zero (L : List FdL) (x : List Int) : ¬ exL L x 0 := fun ⟨i, h, _⟩ => by omega
theorem exL_t {L : List FdL} {x : List Int} {j : Nat} (h : exL L x j) : exL L x (j + 1) := by
  obtain ⟨i, h1, h2⟩ := h
  exact ⟨i, by omega, h2⟩
theorem exL_f {L : List FdL} {x : List Int} {j : Nat} (h : ¬ exL L x j) : (at_ fd0 L (j : Int)).l = x ↔ exL L x (j + 1) := by
  constructor
  · intro g; exact ⟨j, by omega, g⟩
  · rintro ⟨i, h1, h2⟩
    by_cases e : i = j
    · subst e; exact h2
    · exact absurd ⟨i, by omega, h2⟩ h
theorem exL_dup {z : Int} {n j : Nat} (hj : j = (dsF z G n).length) : exL (dsF z G n) (G n) j ↔ dupW G n := by
  subst hj
  constructor
  · rintro ⟨i, h1, h2⟩
    have := (dsF_mem (z := z) n).mp (at_mem fd0 (dsF z G n) (i := (i : Int)) (by omega) (by omega))
    obtain ⟨k, hk, he⟩ := this
    rw [he] at h2
    exact ⟨k, hk, h2⟩
  · rintro ⟨i, h1, h2⟩
    obtain ⟨k, hk, he⟩ := List.getElem_of_mem ((dsF_mem (z := z) (f := ⟨z, z, G i⟩) n).mpr ⟨i, h1, rfl⟩)
    exact ⟨k, hk, by rw [at_eq fd0 _ hk, he]; exact h2⟩
theorem dsF_at {z : Int} {n : Nat} {i : Int} (h0 : 0 ≤ i) (h : i < (dsF z G n).length) : at_ fd0 (dsF z G n) i = ⟨z, z, (at_ fd0 (dsF z G n) i).l⟩ := by
  obtain ⟨k, hk, he⟩ := (dsF_mem (z := z) n).mp (at_mem fd0 (dsF z G n) h0 h)
  rw [he]
end
theorem dsF_ln {z : Int} {G : Nat → List Int} {n m : Nat} {i : Int} (hm : ∀ j, (G j).length ≤ m) (h0 : 0 ≤ i) (h : i < (dsF z G n).length) : (at_ fd0 (dsF z G n) i).l.length ≤ m := by
  obtain ⟨k, hk, he⟩ := (dsF_mem (z := z) n).mp (at_mem fd0 (dsF z G n) h0 h)
  rw [he]; exact hm k
/-- Sizes. -/
def szz (e : Nat) : Int := 2 ^ e
def lgN (r : Int) : Nat := if r = 4 then 3 else if r = 8 then 4 else 5
theorem szz_succ (e : Nat) : szz e * 2 = szz (e + 1) := (Int.pow_succ 2 e).symm
theorem szz_ok {r : Int} (h : r = 4 ∨ r = 8 ∨ r = 16) {e : Nat} (he : e ≤ lgN r) : (szz e ≤ r ↔ e < lgN r) ∧ 1 ≤ szz e ∧ szz e ≤ 32 ∧ (e < lgN r → szz e * (r / szz e) = r ∧ 1 ≤ r / szz e ∧ r / szz e ≤ 16) := by
  have h5 : e ≤ 5 := by unfold lgN at he; split at he <;> (try split at he) <;> omega
  have : e = 0 ∨ e = 1 ∨ e = 2 ∨ e = 3 ∨ e = 4 ∨ e = 5 := by omega
  rcases h with rfl | rfl | rfl <;> rcases this with rfl | rfl | rfl | rfl | rfl | rfl <;> first | (revert he; decide) | decide
/-- A square's blocks of a size, row by row. -/
def blkW (c : Int) (l : List Int) (z m : Int) (t : Nat) : List Int := mkL z (cutG c l (z * ((t : Int) / m)) (z * ((t : Int) % m))) (z.toNat * z.toNat)
theorem blkW_at {c z m : Int} {l : List Int} {a b : Nat} (h0 : 0 < m) (hb : (b : Int) < m) : mkL z (cutG c l (z * (a : Int)) (z * (b : Int))) (z.toNat * z.toNat) = blkW c l z m (a * m.toNat + b) := by
  unfold blkW
  have e : ((a * m.toNat + b : Nat) : Int) = (b : Int) + (a : Int) * m := by
    rw [Int.natCast_add, Int.natCast_mul, Int.toNat_of_nonneg (by omega)]; omega
  rw [e, Int.add_mul_ediv_right _ _ (by omega), Int.add_mul_emod_self_right, Int.ediv_eq_zero_of_lt (by omega) hb, Int.emod_eq_of_lt (by omega) hb, Int.zero_add]
theorem blkW_in {c z m : Int} {l : List Int} {t : Nat} (h : ∀ x ∈ l, 0 ≤ x ∧ x ≤ 1) : ∀ x ∈ blkW c l z m t, 0 ≤ x ∧ x ≤ 255 := by
  intro x hx
  simp only [blkW, mkL, List.mem_map, List.mem_range] at hx
  obtain ⟨i, _, rfl⟩ := hx
  unfold cutG at_
  rw [List.getD_eq_getElem?_getD]
  cases e : l[((z * ((t : Int) / m) + (i : Int) / z) * c + z * ((t : Int) % m) + (i : Int) % z).toNat]? with
  | none => simp
  | some y => have := h y (List.mem_of_getElem? e); simp only [Option.getD_some]; omega
theorem blkW_len {c z m : Int} {l : List Int} {t : Nat} : (blkW c l z m t).length = z.toNat * z.toNat := by simp [blkW, mkL]
def kndN (r c : Int) (l : List Int) (e : Nat) : Nat := (dsK (blkW c l (szz e) (r / szz e)) ((r / szz e).toNat * (r / szz e).toNat)).length
def kndF (r c : Int) (l : List Int) (n : Nat) : List Int := (List.range n).map fun e => (kndN r c l e : Int)
def kndL (r c : Int) (l : List Int) : List Int := kndF r c l (lgN r)
theorem kndF_len {r c : Int} {l : List Int} {n : Nat} : (kndF r c l n).length = n := by simp [kndF]
theorem kndF_succ {r c : Int} {l : List Int} {n : Nat} : kndF r c l n ++ [(kndN r c l n : Int)] = kndF r c l (n + 1) := by simp [kndF, List.range_succ]
theorem mul_lt_iff {z m r a : Int} (hz : 1 ≤ z) (h : z * m = r) : (z * a < r ↔ a < m) := by
  subst h
  exact ⟨fun g => Int.lt_of_mul_lt_mul_left g (by omega), fun g => Int.mul_lt_mul_of_pos_left g (by omega)⟩
theorem mul_next {z : Int} {a : Nat} : z * (a : Int) + z = z * ((a + 1 : Nat) : Int) := by
  rw [Int.natCast_add, Int.mul_add]; simp
theorem mul_in {z m r a : Int} (hz : 1 ≤ z) (h : z * m = r) (a0 : 0 ≤ a) (ha : a < m) : 0 ≤ z * a ∧ z * a + z ≤ r := by
  refine ⟨Int.mul_nonneg (by omega) a0, ?_⟩
  have := Int.mul_le_mul_of_nonneg_left (show a + 1 ≤ m by omega) (show 0 ≤ z by omega)
  rw [Int.mul_add, Int.mul_one] at this
  omega
theorem kndP_len {r c : Int} {l : List Int} : (selL (sqP r c l) (kndL r c l)).length ≤ 64 := selL_len fun h => by
  unfold kndL; rw [kndF_len]
  unfold lgN
  split <;> (try split) <;> omega
end Go.Proofs.Ythgjegbckkpaiaa
