/- Rings: what is one, turns, which turn is the least. -/
import Derived.Test.YtelcmohhjkgjoaaSN
namespace Go.Proofs.Ytelcmohhjkgjoaa
open HL
/-- A ring with some states. -/
def ringP (st : Int) (l : List Int) : Prop := (∀ x ∈ l, 0 ≤ x ∧ x ≤ st - 1) ∧ 1 ≤ (l.length : Int) ∧ (l.length : Int) ≤ 64
instance (st : Int) (l : List Int) : Decidable (ringP st l) := by unfold ringP; infer_instance
/-- A ring turned around: its first n cells. -/
def turnF (l : List Int) (d : Int) (n : Nat) : List Int := (List.range n).map fun (j : Nat) => at_ 0 l (((j : Int) + d) % (l.length : Int))
def turnL (l : List Int) (d : Int) : List Int := turnF l d l.length
theorem turnF_len (l : List Int) (d : Int) (n : Nat) : (turnF l d n).length = n := by simp [turnF]
theorem turnF_succ (l : List Int) (d : Int) (n : Nat) : turnF l d n ++ [at_ 0 l (((n : Int) + d) % (l.length : Int))] = turnF l d (n + 1) := by simp [turnF, List.range_succ]
theorem turnL_len (l : List Int) (d : Int) : (turnL l d).length = l.length := turnF_len l d _
theorem turn_cut {l : List Int} {d : Int} (h0 : 0 ≤ d) (hl : 0 < l.length) :
    ((l.drop (d % (l.length : Int)).toNat).take ((l.length : Int).toNat - (d % (l.length : Int)).toNat)) ++ ((l.drop (0 : Int).toNat).take ((d % (l.length : Int)).toNat - (0 : Int).toNat)) = turnL l d := by
  have h1 := Int.emod_nonneg d (b := (l.length : Int)) (by omega)
  have h2 := Int.emod_lt_of_pos d (b := (l.length : Int)) (by omega)
  obtain ⟨k, hk⟩ : ∃ k : Nat, d % (l.length : Int) = (k : Int) := ⟨(d % (l.length : Int)).toNat, by omega⟩
  have hd : ∀ j : Nat, ((j : Int) + d) % (l.length : Int) = ((j : Int) + (k : Int)) % (l.length : Int) := fun j => by rw [← hk, Int.add_emod_emod]
  rw [hk] at h2 ⊢
  simp only [Int.toNat_natCast]
  have e0 : (0 : Int).toNat = 0 := rfl
  rw [e0, List.drop_zero, Nat.sub_zero, List.take_of_length_le (l := l.drop k) (by simp)]
  apply List.ext_getElem
  · rw [turnL_len]; simp; omega
  · intro j g1 g2
    rw [turnL_len] at g2
    have e : (turnL l d)[j]'(by rw [turnL_len]; exact g2) = at_ 0 l (((j : Int) + d) % (l.length : Int)) := by simp [turnL, turnF]
    rw [e, hd]
    by_cases hj : j < (l.drop k).length
    · rw [List.getElem_append_left hj]
      simp only [List.length_drop] at hj
      rw [Int.emod_eq_of_lt (by omega) (by omega), show (j : Int) + (k : Int) = ((j + k : Nat) : Int) by omega, at_eq 0 l (by omega)]
      simp [Nat.add_comm]
    · rw [List.getElem_append_right (by omega)]
      simp only [List.length_drop] at hj ⊢
      have h3 : ((j : Int) + (k : Int)) % (l.length : Int) = ((j - (l.length - k) : Nat) : Int) := by
        rw [← Int.sub_emod_right, Int.emod_eq_of_lt (by omega) (by omega)]
        omega
      rw [h3, at_eq 0 l (by omega)]
      simp
theorem turnL_zero (l : List Int) : turnL l 0 = l := by
  apply List.ext_getElem
  · rw [turnL_len]
  · intro j g1 g2
    have e : (turnL l 0)[j]'g1 = at_ 0 l (((j : Int) + 0) % (l.length : Int)) := by simp [turnL, turnF]
    rw [e, Int.add_zero, Int.emod_eq_of_lt (by omega) (by omega), at_eq 0 l g2]
/-- Is a list before another one of the same length? -/
def lexL : List Int → List Int → Bool
  | x :: a, y :: b => if x = y then lexL a b else decide (x < y)
  | _, _ => false
theorem lexL_self : ∀ a : List Int, lexL a a = false
  | [] => rfl
  | x :: a => by simp [lexL, lexL_self a]
theorem lexL_at : ∀ {a b : List Int} {i : Nat}, i < a.length → i < b.length → a.take i = b.take i → at_ 0 a (i : Int) ≠ at_ 0 b (i : Int) → lexL a b = decide (at_ 0 a (i : Int) < at_ 0 b (i : Int))
  | x :: a, y :: b, 0, _, _, _, hne => by
    have e : x ≠ y := hne
    simp only [lexL, if_neg e]; rfl
  | x :: a, y :: b, i + 1, ha, hb, ht, hne => by
    simp only [List.take_succ_cons, List.cons.injEq] at ht
    have e1 : at_ 0 (x :: a) ((i + 1 : Nat) : Int) = at_ 0 a (i : Int) := by rw [at_eq 0 _ ha, at_eq 0 _ (by simpa using ha)]; rfl
    have e2 : at_ 0 (y :: b) ((i + 1 : Nat) : Int) = at_ 0 b (i : Int) := by rw [at_eq 0 _ hb, at_eq 0 _ (by simpa using hb)]; rfl
    rw [e1, e2] at hne ⊢
    simp only [lexL, if_pos ht.1]
    exact lexL_at (by simpa using ha) (by simpa using hb) ht.2 hne
theorem take_succ_eq {a b : List Int} {i : Nat} (ha : i < a.length) (hb : i < b.length) (h : a.take i = b.take i) (he : at_ 0 a (i : Int) = at_ 0 b (i : Int)) : a.take (i + 1) = b.take (i + 1) := by
  rw [take_at 0 a ha, take_at 0 b hb, h, he]
theorem take_all_eq {a b : List Int} {i : Nat} (ha : a.length ≤ i) (hb : b.length ≤ i) (h : a.take i = b.take i) : a = b := by
  rwa [List.take_of_length_le ha, List.take_of_length_le hb] at h
/-- The order of two numbers, and of two lists of one length. -/
def cmp1 (x y : Int) : Int := if x < y then -1 else if y < x then 1 else 0
def cmpL (a b : List Int) : Int := if a = b then 0 else if lexL a b then -1 else 1
theorem cmp1_ne {x y : Int} (h : cmp1 x y ≠ 0) : x ≠ y := by unfold cmp1 at h; rintro rfl; simp at h
theorem cmp1_eq {x y : Int} (h : ¬ cmp1 x y ≠ 0) : x = y := by
  unfold cmp1 at h
  split at h
  · simp at h
  · split at h
    · simp at h
    · omega
theorem cmpL_at {a b : List Int} {i : Nat} (ha : i < a.length) (hb : i < b.length) (ht : a.take i = b.take i) (hne : at_ 0 a (i : Int) ≠ at_ 0 b (i : Int)) : cmp1 (at_ 0 a (i : Int)) (at_ 0 b (i : Int)) = cmpL a b := by
  have h1 : a ≠ b := by rintro rfl; exact hne rfl
  unfold cmpL cmp1
  rw [if_neg h1, lexL_at ha hb ht hne]
  by_cases h : at_ 0 a (i : Int) < at_ 0 b (i : Int)
  · simp [h]
  · rw [if_neg h, if_pos (by omega)]; simp [h]
theorem cmpL_lt {a b : List Int} : cmpL a b < 0 ↔ lexL a b = true := by
  unfold cmpL
  split
  · rename_i h; subst h; simp [lexL_self]
  · split <;> simp_all
/-- The least of the first turns. -/
def bstL (l : List Int) : Nat → List Int
  | 0 => l
  | n + 1 => if lexL (turnL l (n : Int)) (bstL l n) then turnL l (n : Int) else bstL l n
theorem bstL_len (l : List Int) : ∀ n, (bstL l n).length = l.length
  | 0 => rfl
  | n + 1 => by
    simp only [bstL]
    split
    · exact turnL_len l _
    · exact bstL_len l n
theorem bstL_one (l : List Int) : bstL l 1 = l := by
  show (if lexL (turnL l ((0 : Nat) : Int)) l then turnL l ((0 : Nat) : Int) else l) = l
  rw [show turnL l ((0 : Nat) : Int) = l from turnL_zero l, ite_self]
theorem bstL_t {l : List Int} {n : Nat} (h : lexL (turnL l (n : Int)) (bstL l n) = true) : turnL l (n : Int) = bstL l (n + 1) := by simp [bstL, h]
theorem bstL_f {l : List Int} {n : Nat} (h : ¬ lexL (turnL l (n : Int)) (bstL l n) = true) : bstL l n = bstL l (n + 1) := by simp [bstL, h]
def trnP (l : List Int) (d : Int) : Prop := ringP 3 l ∧ 0 ≤ d ∧ d ≤ 64
instance (l : List Int) (d : Int) : Decidable (trnP l d) := by unfold trnP; infer_instance
theorem trnP_len {l : List Int} {d : Int} : (selL (trnP l d) (turnL l d)).length ≤ 64 := selL_len fun h => by rw [turnL_len]; have := h.1.2; omega
theorem lstP_len {l : List Int} : (selL (ringP 3 l) (bstL l l.length)).length ≤ 64 := selL_len fun h => by rw [bstL_len]; have := h.2; omega
end Go.Proofs.Ytelcmohhjkgjoaa
