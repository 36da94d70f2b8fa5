/- Texts: bytes turned to texts, small numbers, the rows of a field. -/
import Derived.Test.YtialllbbbpmkbaaDoorXB
import Derived.Test.YtialllbbbpmkbaaDoorXR
import Derived.Test.YtialllbbbpmkbaaDoorKT
namespace Go.Proofs.YtialllbbbpmkbaaDoor
open HL
set_option maxRecDepth 100000
namespace HL
def btT (l : List Int) : List UInt8 := l.map fun n => UInt8.ofNat n.toNat
theorem val_convT {P : Program} {s d : TypeId} {H : Hp} {v : Value} {l : List Int} (h : cvBS P s d = true) (hs : Sl eU H v l) : val P (convert s d v) H = some (vS (btT l)) := by
  rw [val_convBS h hs, tS_of (bytesS .empty l), bytesS_data]
  rfl
theorem Cel.castX {H : Hp} {p : Value} {cs ds : List Value} (e : cs = ds) (h : Cel H p cs) : Cel H p ds := e ▸ h
end HL
def digT : List UInt8 := [48, 49, 50, 51, 52, 53, 54, 55, 56, 57, 97, 98, 99, 100, 101, 102, 103, 104, 105, 106, 107, 108, 109, 110, 111, 112, 113, 114, 115, 116, 117, 118, 119, 120, 121, 122]
def dig2T : List UInt8 := [48, 48, 48, 49, 48, 50, 48, 51, 48, 52, 48, 53, 48, 54, 48, 55, 48, 56, 48, 57, 49, 48, 49, 49, 49, 50, 49, 51, 49, 52, 49, 53, 49, 54, 49, 55, 49, 56, 49, 57, 50, 48, 50, 49, 50, 50, 50, 51, 50, 52, 50, 53, 50, 54, 50, 55, 50, 56, 50, 57, 51, 48, 51, 49, 51, 50, 51, 51, 51, 52, 51, 53, 51, 54, 51, 55, 51, 56, 51, 57, 52, 48, 52, 49, 52, 50, 52, 51, 52, 52, 52, 53, 52, 54, 52, 55, 52, 56, 52, 57, 53, 48, 53, 49, 53, 50, 53, 51, 53, 52, 53, 53, 53, 54, 53, 55, 53, 56, 53, 57, 54, 48, 54, 49, 54, 50, 54, 51, 54, 52, 54, 53, 54, 54, 54, 55, 54, 56, 54, 57, 55, 48, 55, 49, 55, 50, 55, 51, 55, 52, 55, 53, 55, 54, 55, 55, 55, 56, 55, 57, 56, 48, 56, 49, 56, 50, 56, 51, 56, 52, 56, 53, 56, 54, 56, 55, 56, 56, 56, 57, 57, 48, 57, 49, 57, 50, 57, 51, 57, 52, 57, 53, 57, 54, 57, 55, 57, 56, 57, 57]
theorem dig_one : ∀ n : Nat, n < 10 → (digT.drop n).take (n + 1 - n) = decT n := by decide +kernel
theorem dig_two : ∀ n : Nat, n < 100 → 10 ≤ n → (dig2T.drop (n * 2)).take (n * 2 + 2 - n * 2) = decT n := by decide +kernel
theorem small_one {n : Int} (h0 : 0 ≤ n) (h1 : n < 10) : (digT.drop n.toNat).take ((n + 1).toNat - n.toNat) = decT n.toNat := by
  have := dig_one n.toNat (by omega)
  rw [show (n + 1).toNat = n.toNat + 1 by omega]; exact this
theorem small_two {n : Int} (h0 : 10 ≤ n) (h1 : n < 100) : (dig2T.drop (n * 2).toNat).take ((n * 2 + 2).toNat - (n * 2).toNat) = decT n.toNat := by
  have := dig_two n.toNat (by omega) (by omega)
  rw [show (n * 2 + 2).toNat = n.toNat * 2 + 2 by omega, show (n * 2).toNat = n.toNat * 2 by omega]; exact this
theorem num_one {n : Int} (h0 : 0 ≤ n) (h1 : n < 10) : btT [48 + n] = decT n.toNat := by
  unfold btT decT
  rw [if_pos (by omega)]
  simp only [List.map_cons, List.map_nil]
  rw [show (48 + n).toNat = 48 + n.toNat by omega]
theorem num_two {n : Int} (h0 : 10 ≤ n) (h1 : n < 100) : decT (n / 10).toNat ++ btT [48 + n % 10] = decT n.toNat := by
  unfold btT decT
  rw [if_pos (by omega), if_neg (by omega)]
  simp only [List.map_cons, List.map_nil, List.singleton_append]
  rw [show (48 + n % 10).toNat = 48 + n.toNat % 10 by omega, show (n / 10).toNat = n.toNat / 10 by omega]
theorem bo_T {x : Int} (h0 : 0 ≤ x) (h1 : x ≤ 1) : (([98, 111] : List UInt8).drop x.toNat).take ((x + 1).toNat - x.toNat) = [chT x] := by
  rcases show x = 0 ∨ x = 1 by omega with rfl | rfl <;> rfl
theorem chT_1 {x : Int} (h : x = 1) : ([111] : List UInt8) = [chT x] := by subst h; rfl
theorem chT_0 {x : Int} (h : ¬ x = 1) : ([98] : List UInt8) = [chT x] := by unfold chT; rw [if_neg h]
/-- The rows' texts. -/
def rowsT (c : Nat) (l : List Int) (n : Nat) : List (List UInt8) := (List.range n).map fun i => rtx (rowL c l i)
theorem rowsT_len {c : Nat} {l : List Int} {n : Nat} : (rowsT c l n).length = n := by simp [rowsT]
theorem rowsT_succ {c : Nat} {l : List Int} {n : Nat} : rowsT c l (n + 1) = rowsT c l n ++ [rtx (rowL c l n)] := by simp [rowsT, List.range_succ]
theorem rowsT_flat {c : Nat} {l : List Int} : ∀ n : Nat, (rowsT c l n).flatten.length ≤ n * (3 * c)
  | 0 => by simp [rowsT]
  | n + 1 => by
    have ih := rowsT_flat (c := c) (l := l) n
    have h2 := rtx_len c (rowL c l n) (by unfold rowL; simp; omega)
    have h3 : (rowL c l n).length ≤ c := by unfold rowL; simp; omega
    rw [rowsT_succ]
    simp only [List.flatten_append, List.length_append, List.flatten_cons, List.flatten_nil, List.append_nil]
    rw [Nat.add_mul]
    omega
def joinR (c : Nat) (l : List Int) (n : Nat) : List UInt8 := joinT [36] (rowsT c l n)
theorem joinR_zero {c : Nat} {l : List Int} : joinR c l 0 = [] := rfl
theorem joinR_one {c : Nat} {l : List Int} {n : Nat} (h : n = 0) : joinR c l (n + 1) = rtx (rowL c l n) := by
  subst h
  simp [joinR, rowsT, joinT]
theorem joinR_succ {c : Nat} {l : List Int} {n : Nat} (h : 0 < n) : joinR c l (n + 1) = joinR c l n ++ [36] ++ rtx (rowL c l n) := by
  unfold joinR
  rw [rowsT_succ]
  exact joinT_snoc _ _ _ (fun he => by have := congrArg List.length he; rw [rowsT_len] at this; simp at this; omega)
theorem joinR_len {c : Nat} {l : List Int} : ∀ n : Nat, (joinR c l n).length ≤ n * (3 * c + 1)
  | 0 => by simp [joinR_zero]
  | n + 1 => by
    have ih := joinR_len (c := c) (l := l) n
    have h2 := rtx_len c (rowL c l n) (by unfold rowL; simp; omega)
    have h3 : (rowL c l n).length ≤ c := by unfold rowL; simp; omega
    rcases Nat.eq_zero_or_pos n with h | h
    · rw [joinR_one h, Nat.add_mul]; omega
    · rw [joinR_succ h, Nat.add_mul]; simp only [List.length_append, List.length_singleton]; omega
/-- What is written ahead of the rows. -/
def headT (r c : Int) : List UInt8 := decT c.toNat ++ [44] ++ decT r.toNat ++ [58]
theorem headT_len (r c : Int) : (headT r c).length ≤ 6 := by
  have := decT_len c.toNat
  have := decT_len r.toNat
  simp only [headT, List.length_append, List.length_singleton]
  omega
/-- A field's text. -/
def fieldT (r c : Int) (l : List Int) : List UInt8 := headT r c ++ joinR c.toNat l r.toNat ++ [33]
theorem fieldT_len {r c : Int} {l : List Int} (hs : sidesF r c) : (fieldT r c l).length ≤ 2000 := by
  have h1 := headT_len r c
  have h2 := joinR_len (c := c.toNat) (l := l) r.toNat
  obtain ⟨⟨_, _⟩, _, _⟩ := hs
  have h3 : r.toNat * (3 * c.toNat + 1) ≤ 24 * (3 * 24 + 1) := Nat.mul_le_mul (by omega) (by omega)
  simp only [fieldT, List.length_append, List.length_singleton]
  omega
theorem row_mul {r c : Int} {i : Nat} (hs : sidesF r c) (hi : (i : Int) < r) : ((i * c.toNat : Nat) : Int) = (i : Int) * c ∧ 0 ≤ (i : Int) * c ∧ (i : Int) * c + c ≤ r * c ∧ ((i : Int) + 1) * c = (i : Int) * c + c := by
  obtain ⟨⟨_, _⟩, _, _⟩ := hs
  have e : ((i * c.toNat : Nat) : Int) = (i : Int) * c := by rw [Int.natCast_mul, Int.toNat_of_nonneg (by omega)]
  have h1 : ((i : Int) + 1) * c ≤ r * c := Int.mul_le_mul_of_nonneg_right (by omega) (by omega)
  have h2 : ((i : Int) + 1) * c = (i : Int) * c + c := by rw [Int.add_mul, Int.one_mul]
  refine ⟨e, ?_, by omega, h2⟩
  have := Int.mul_nonneg (show (0 : Int) ≤ i by omega) (show 0 ≤ c by omega)
  exact this
theorem row_eq {r c : Int} {l : List Int} {i : Nat} (hs : sidesF r c) (hi : (i : Int) < r) : (l.drop ((i : Int) * c).toNat).take ((((i : Int) + 1) * c).toNat - ((i : Int) * c).toNat) = rowL c.toNat l i := by
  obtain ⟨e, h0, h1, h2⟩ := row_mul hs hi
  unfold rowL
  rw [show ((i : Int) * c).toNat = i * c.toNat by omega, show (((i : Int) + 1) * c).toNat - i * c.toNat = c.toNat by have := hs.2.1; omega]
theorem row_01 {c : Nat} {l : List Int} {i : Nat} (h : ∀ x ∈ l, 0 ≤ x ∧ x ≤ 1) : ∀ x ∈ rowL c l i, 0 ≤ x ∧ x ≤ 1 := fun x hx => h x (List.mem_of_mem_drop (List.mem_of_mem_take hx))
theorem endP_back {row : List Int} {e : Nat} (h : endP row e) (he : 0 < e) (h0 : at_ 0 row ((e : Int) - 1) = 0) {d : Nat} (hd : d = e - 1) : endP row d := by
  subst hd
  refine ⟨by have := h.1; omega, fun q h1 h2 => ?_⟩
  rcases Nat.lt_or_ge q e with h3 | h3
  · rw [show (q : Int) = (e : Int) - 1 by omega]; exact h0
  · exact h.2 q h3 h2
end Go.Proofs.YtialllbbbpmkbaaDoor
