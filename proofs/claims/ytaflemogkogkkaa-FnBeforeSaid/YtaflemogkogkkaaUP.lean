/- Digits of numbers, and all plain fields of few cells. -/
import Derived.Test.YtaflemogkogkkaaUM
namespace Go.Proofs.Ytaflemogkogkkaa
open HL
theorem HL.Cel.cast {H : Hp} {p : Value} {cs cs' : List Value} (e : cs = cs') (h : Cel H p cs) : Cel H p cs' := e ▸ h
theorem HL.vInt_shl1 {k : IntKind} {n : Int} (h0 : 0 ≤ n) (h1 : n ≤ 62) : vInt .shl (.int .i64 1) (.int k n) = some (.int .i64 ((2 ^ n.toNat : Nat) : Int)) := by
  simp only [vInt, if_pos h0, Int.one_mul]
  have h2 : min n.toNat IntKind.i64.bits = n.toNat := by
    have : IntKind.i64.bits = 64 := rfl
    omega
  have h3 : (2 : Nat) ^ n.toNat ≤ 2 ^ 62 := Nat.pow_le_pow_right (by omega) (by omega)
  have e : (2 : Int) ^ n.toNat = ((2 ^ n.toNat : Nat) : Int) := by rw [Int.natCast_pow]; rfl
  have h4 : ((2 ^ n.toNat : Nat) : Int) ≤ ((2 ^ 62 : Nat) : Int) := Int.ofNat_le.mpr h3
  have h5 : (0 : Int) ≤ ((2 ^ n.toNat : Nat) : Int) := Int.natCast_nonneg _
  have h6 : ((2 ^ 62 : Nat) : Int) = 4611686018427387904 := by decide
  rw [h2, e, wrap64 (Int.le_trans (by decide) h5) (Int.lt_of_le_of_lt h4 (by rw [h6]; decide))]
/-- A power of 2. -/
def pw (n : Int) : Nat := 2 ^ n.toNat
theorem pw_le {n : Int} (h : n ≤ 12) : pw n ≤ 4096 := Nat.pow_le_pow_right (by omega) (show n.toNat ≤ 12 by omega)
theorem pw_pos (n : Int) : 0 < pw n := Nat.pow_pos (by omega)
/-- The digits of a number, the greatest one first; and the last t of them. -/
def dgL (b x : Int) (N : Nat) : List Int := (List.range N).map fun j => x / b ^ (N - 1 - j) % b
def dgF (b x : Int) (N t : Nat) : List Int := (List.range N).map fun j => if N - t ≤ j then x / b ^ (N - 1 - j) % b else 0
theorem dgL_len (b x : Int) (N : Nat) : (dgL b x N).length = N := by simp [dgL]
theorem dgF_len (b x : Int) (N t : Nat) : (dgF b x N t).length = N := by simp [dgF]
theorem dgF_zero (b x : Int) (N : Nat) : dgF b x N 0 = List.replicate N 0 := by
  rw [List.eq_replicate_iff]
  refine ⟨dgF_len b x N 0, fun y hy => ?_⟩
  simp only [dgF, List.mem_map, List.mem_range] at hy
  obtain ⟨j, hj, rfl⟩ := hy
  rw [if_neg (by omega)]
theorem dgF_full (b x : Int) (N : Nat) : dgF b x N N = dgL b x N := by
  unfold dgF dgL
  apply List.map_congr_left
  intro j _
  rw [if_pos (by omega)]
theorem dgF_set {b x : Int} {N t : Nat} (h : t < N) {i : Int} (hi : i = (N : Int) - 1 - t) : (dgF b x N t).set i.toNat (x / b ^ t % b) = dgF b x N (t + 1) := by
  have e : i.toNat = N - 1 - t := by omega
  rw [e]
  apply List.ext_getElem?
  intro j
  rw [List.getElem?_set]
  simp only [dgF, List.getElem?_map, List.length_map, List.length_range]
  by_cases hj : j < N
  · rw [List.getElem?_range hj]
    simp only [Option.map_some]
    by_cases h1 : N - 1 - t = j
    · rw [if_pos h1, if_pos (by omega), if_pos (by omega), show N - 1 - j = t by omega]
    · rw [if_neg h1]
      by_cases h2 : N - t ≤ j
      · rw [if_pos h2, if_pos (by omega)]
      · rw [if_neg h2, if_neg (by omega)]
  · rw [List.getElem?_eq_none (by simpa using hj)]
    simp only [Option.map_none]
    split
    · rw [if_neg (by omega)]
    · rfl
theorem dg_div {b x : Int} {t : Nat} (hb : 0 < b) : x / b ^ t / b = x / b ^ (t + 1) := by
  rw [Int.pow_succ, Int.ediv_ediv_of_nonneg (Int.le_of_lt (Int.pow_pos hb))]
theorem dg_bnd {b x : Int} {t : Nat} (hb : 0 < b) (hx : 0 ≤ x) : 0 ≤ x / b ^ t ∧ x / b ^ t ≤ x := by
  have hp : 0 < b ^ t := Int.pow_pos hb
  exact ⟨Int.ediv_nonneg hx (by omega), Int.ediv_le_self _ hx⟩
theorem dg_one {b x : Int} : x / b ^ 0 = x := by rw [Int.pow_zero, Int.ediv_one]
theorem dgL_mem {b x : Int} {N : Nat} (hb : 0 < b) : ∀ y ∈ dgL b x N, 0 ≤ y ∧ y ≤ b - 1 := fun y hy => by
  simp only [dgL, List.mem_map, List.mem_range] at hy
  obtain ⟨j, _, rfl⟩ := hy
  have h1 := Int.emod_nonneg (x / b ^ (N - 1 - j)) (b := b) (by omega)
  have h2 := Int.emod_lt_of_pos (x / b ^ (N - 1 - j)) hb
  omega
/-- Few cells. -/
def smP (r c : Int) : Prop := sidesF r c ∧ r * c ≤ 12
instance (r c : Int) : Decidable (smP r c) := by unfold smP; infer_instance
theorem dgL_field {r c x : Int} (h : sidesF r c) : fieldN 1 r c (dgL 2 x (r * c).toNat) := by
  have := sidesF_mul h
  exact ⟨h, by rw [dgL_len]; omega, fun y hy => by have := dgL_mem (b := 2) (by omega) y hy; omega⟩
/-- How many numbers below n have something. -/
def cnN (p : Nat → Prop) [DecidablePred p] : Nat → Int
  | 0 => 0
  | n + 1 => cnN p n + (if p n then 1 else 0)
theorem cnN_zero (p : Nat → Prop) [DecidablePred p] : cnN p 0 = 0 := rfl
theorem cnN_yes {p : Nat → Prop} [DecidablePred p] {n : Nat} (h : p n) : cnN p (n + 1) = cnN p n + 1 := by simp [cnN, h]
theorem cnN_no {p : Nat → Prop} [DecidablePred p] {n : Nat} (h : ¬ p n) : cnN p (n + 1) = cnN p n := by simp [cnN, h]
theorem cnN_bnd (p : Nat → Prop) [DecidablePred p] : ∀ n, 0 ≤ cnN p n ∧ cnN p n ≤ n
  | 0 => by simp [cnN]
  | n + 1 => by
    have := cnN_bnd p n
    simp only [cnN]
    split <;> omega
def stillP (b s : List Int) (r c : Int) (t : Nat) : Prop := nxL false b s r c (dgL 2 t (r * c).toNat) = dgL 2 t (r * c).toNat
instance (b s : List Int) (r c : Int) : DecidablePred (stillP b s r c) := fun t => by unfold stillP; infer_instance
def befP (b s : List Int) (r c : Int) (l : List Int) (t : Nat) : Prop := nxL false b s r c (dgL 2 t (r * c).toNat) = l
instance (b s : List Int) (r c : Int) (l : List Int) : DecidablePred (befP b s r c l) := fun t => by unfold befP; infer_instance
def stlP (b s : List Int) (r c : Int) : Prop := lifP b s ∧ smP r c
instance (b s : List Int) (r c : Int) : Decidable (stlP b s r c) := by unfold stlP; infer_instance
def cbfP (b s : List Int) (r c : Int) (l : List Int) : Prop := canP b s r c l ∧ smP r c
instance (b s : List Int) (r c : Int) (l : List Int) : Decidable (cbfP b s r c l) := by unfold cbfP; infer_instance
theorem fst_keep {p : Nat → Prop} [DecidablePred p] {t : Nat} (h : 0 ≤ fstN p t) : fstN p (t + 1) = fstN p t := by simp only [fstN]; rw [if_pos h]
theorem fst_skip {p : Nat → Prop} [DecidablePred p] {t : Nat} (h : ¬ p t) : fstN p (t + 1) = fstN p t := by
  by_cases h0 : 0 ≤ fstN p t
  · exact fst_keep h0
  · show (if 0 ≤ fstN p t then fstN p t else if p t then (t : Int) else -1) = _
    rw [if_neg h0, if_neg h]
    have := fstN_lt (p := p) (N := t)
    omega
theorem fst_hit {p : Nat → Prop} [DecidablePred p] {t : Nat} (h : ¬ 0 ≤ fstN p t) (hp : p t) : fstN p (t + 1) = (t : Int) := by simp only [fstN]; rw [if_neg h, if_pos hp]
theorem HL.selI_iff {p q : Prop} [Decidable p] [Decidable q] {x : Int} (h : p ↔ q) : selI p x = selI q x := by unfold selI; simp [h]
theorem HL.selL_iff {α : Type} {p q : Prop} [Decidable p] [Decidable q] {l : List α} (h : p ↔ q) : selL p l = selL q l := by unfold selL; simp [h]
/-- The first field that leads to one. -/
def fbF (b s : List Int) (r c : Int) (l : List Int) : Int := fstN (befP b s r c l) (pw (r * c))
def fbP (b s : List Int) (r c : Int) (l : List Int) : Prop := cbfP b s r c l ∧ 0 ≤ fbF b s r c l
instance (b s : List Int) (r c : Int) (l : List Int) : Decidable (fbP b s r c l) := by unfold fbP; infer_instance
theorem fbP_len {b s : List Int} {r c : Int} {l : List Int} : (selL (fbP b s r c l) (dgL 2 (fbF b s r c l) (r * c).toNat)).length ≤ 576 := selL_len fun h => by rw [dgL_len]; have := h.1.2.2; omega
end Go.Proofs.Ytaflemogkogkkaa
