/- Lanes: means, shares, what the law asks. -/
import Derived.Test.YtdfoobomlabffaaLO
import Derived.Test.YtdfoobomlabffaaFB
import Derived.Test.YtdfoobomlabffaaZA
namespace Go.Proofs.Ytdfoobomlabffaa
open HL
set_option maxRecDepth 100000
def HL.fEq (x y : Nat) : Bool := FloatKind.f32.format.order x y == some .eq
theorem HL.vF_eql (x y : Nat) : vFcmp .eql (.float .f32 x) (.float .f32 y) = some (.bool (fEq x y)) := by simp [vFcmp, fEq]
def fGtO (o : Option Nat) (y : Nat) : Bool := match o with | some r => fGt r y | none => false
theorem fGtO_of {o : Option Nat} {z y : Nat} (h : FR .f32 o z) : fGt z y = fGtO o y := by
  cases o with
  | some r => simp only [FR] at h; subst h; rfl
  | none =>
    simp only [FR] at h
    unfold fGtO fGt
    rw [order_nan h]; rfl
/-- A share told in quarters. -/
theorem shr_quarter {k : Int} {z : Nat} (h0 : 0 ≤ k) (h1 : k < 5) (h : FR .f32 (FloatKind.f32.format.div (FloatKind.f32.nearest k) 1082130432) z) : shrP z := by
  have hk : k = 0 ∨ k = 1 ∨ k = 2 ∨ k = 3 ∨ k = 4 := by omega
  rcases hk with rfl | rfl | rfl | rfl | rfl
  · rw [show FloatKind.f32.format.div (FloatKind.f32.nearest 0) 1082130432 = some 0 by decide +kernel] at h; simp only [FR] at h; subst h; decide +kernel
  · rw [show FloatKind.f32.format.div (FloatKind.f32.nearest 1) 1082130432 = some 1048576000 by decide +kernel] at h; simp only [FR] at h; subst h; decide +kernel
  · rw [show FloatKind.f32.format.div (FloatKind.f32.nearest 2) 1082130432 = some 1056964608 by decide +kernel] at h; simp only [FR] at h; subst h; decide +kernel
  · rw [show FloatKind.f32.format.div (FloatKind.f32.nearest 3) 1082130432 = some 1061158912 by decide +kernel] at h; simp only [FR] at h; subst h; decide +kernel
  · rw [show FloatKind.f32.format.div (FloatKind.f32.nearest 4) 1082130432 = some 1065353216 by decide +kernel] at h; simp only [FR] at h; subst h; decide +kernel
theorem shr_zero : shrP 0 := by decide +kernel
def spChk : Bool := (List.range 21).all fun C => C == 0 || (List.range 6).all fun m => (List.range (m * C + 1)).all fun S =>
  !(fLtO (FloatKind.f32.format.div (FloatKind.f32.nearest (S : Int)) (FloatKind.f32.nearest (C : Int))) 0) && !(fGtO (FloatKind.f32.format.div (FloatKind.f32.nearest (S : Int)) (FloatKind.f32.nearest (C : Int))) (FloatKind.f32.nearest (m : Int)))
theorem spChk_ok : spChk = true := by decide +kernel
theorem sp_ok {S C m : Int} (hS : 0 ≤ S) (hC : 1 ≤ C) (hC2 : C ≤ 20) (hm : 0 ≤ m) (hm2 : m ≤ 5) (h : S ≤ m * C) :
    fLtO (FloatKind.f32.format.div (FloatKind.f32.nearest S) (FloatKind.f32.nearest C)) 0 = false ∧ fGtO (FloatKind.f32.format.div (FloatKind.f32.nearest S) (FloatKind.f32.nearest C)) (FloatKind.f32.nearest m) = false := by
  obtain ⟨s, rfl⟩ := Int.eq_ofNat_of_zero_le hS
  obtain ⟨c, rfl⟩ := Int.eq_ofNat_of_zero_le (show 0 ≤ C by omega)
  obtain ⟨n, rfl⟩ := Int.eq_ofNat_of_zero_le hm
  have h1 := List.all_eq_true.mp spChk_ok c (List.mem_range.mpr (by omega))
  rw [show (c == 0) = false by simp; omega, Bool.false_or] at h1
  have h2 := List.all_eq_true.mp h1 n (List.mem_range.mpr (by omega))
  have h3 := List.all_eq_true.mp h2 s (List.mem_range.mpr (by have : (s : Int) ≤ ((n * c : Nat) : Int) := by rw [Int.natCast_mul]; exact h
                                                              omega))
  simp only [Bool.and_eq_true, Bool.not_eq_true'] at h3
  exact h3
theorem spd_cons (x : Int) (l : List Int) : spdC (x :: l) = spdC l + (if 0 ≤ x then 1 else 0) ∧ spdS (x :: l) = spdS l + (if 0 ≤ x then x else 0) := by
  simp only [spdC, spdS, List.map_cons, List.sum_cons]; omega
theorem cN_shift (f : Nat → Int) : ∀ k, cN f (k + 1) = (if 0 ≤ f 0 then 1 else 0) + cN (fun i => f (i + 1)) k
  | 0 => by simp [cN]
  | k + 1 => by
    rw [show cN f (k + 1 + 1) = cN f (k + 1) + if 0 ≤ f (k + 1) then 1 else 0 from rfl, cN_shift f k]
    rw [show cN (fun i => f (i + 1)) (k + 1) = cN (fun i => f (i + 1)) k + if 0 ≤ f (k + 1) then 1 else 0 from rfl]
    omega
theorem spd_cars : ∀ l : List Int, spdC l = carsN l
  | [] => rfl
  | x :: l => by
    rw [(spd_cons x l).1, spd_cars l]
    unfold carsN
    rw [List.length_cons, cN_shift]
    have e : (fun i : Nat => at_ 0 (x :: l) ((i + 1 : Nat) : Int)) = fun i : Nat => at_ 0 l (i : Int) := by
      funext i; rfl
    show cN _ _ + _ = _ + cN (fun i : Nat => at_ 0 (x :: l) ((i + 1 : Nat) : Int)) l.length
    rw [e]
    have e0 : at_ 0 (x :: l) ((0 : Nat) : Int) = x := rfl
    rw [e0]; omega
theorem spd_most {m : Int} (hm : 0 ≤ m) : ∀ {l : List Int}, (∀ x ∈ l, x ≤ m) → 0 ≤ spdS l ∧ spdS l ≤ m * spdC l
  | [], _ => by simp [spdS, spdC]
  | x :: l, h => by
    have ih := spd_most hm (l := l) (fun y hy => h y (by simp [hy]))
    have hx := h x (by simp)
    rw [(spd_cons x l).1, (spd_cons x l).2, Int.mul_add]
    split <;> omega
theorem all_snoc {l : List Int} {x : Int} {p : Int → Prop} (h : ∀ y ∈ l, p y) (hx : p x) : ∀ y ∈ l ++ [x], p y := fun y hy => by
  rcases List.mem_append.mp hy with hy | hy
  · exact h y hy
  · simp only [List.mem_singleton] at hy; subst hy; exact hx
theorem mem_at {l : List Int} {x : Int} (h : x ∈ l) : ∃ j : Nat, j < l.length ∧ at_ 0 l (j : Int) = x := by
  obtain ⟨j, hj, rfl⟩ := List.getElem_of_mem h
  exact ⟨j, hj, at_eq 0 l hj⟩
/-- The mean speed lies within. -/
theorem ln_speed {l : List Int} {most : Int} {sh z : Nat} {x : Int} (h : isLane l) (hn : l.length ≤ 20) (hm : 1 ≤ most) (hM : most ≤ 5) (hz : FR .f32 (spdO (lnL l most sh x)) z) :
    (spdOk (lnL l most sh x) ↔ 0 < carsN l) ∧ (spdOk (lnL l most sh x) → fLt z 0 = false ∧ fGt z (FloatKind.f32.nearest most) = false) := by
  have h0 : 0 < l.length := by have := h.1.1; omega
  have hL := ln_lane (sh := sh) (x := x) h hm hM
  have hc := ln_cars (sh := sh) (x := x) h0 hm
  have cb := cN_bnd (fun i => at_ 0 l (i : Int)) l.length
  have e1 := spd_cars (lnL l most sh x)
  have key : spdOk (lnL l most sh x) ↔ 0 < carsN l := by
    unfold spdOk
    rw [e1, hc]
    unfold carsN at *
    exact ⟨fun g => by have := g.2; omega, fun g => ⟨hL, by omega⟩⟩
  refine ⟨key, fun g => ?_⟩
  have g2 := key.mp g
  have hs := spd_most (l := lnL l most sh x) (m := most) (by omega) (fun y hy => by
    obtain ⟨j, hj, rfl⟩ := mem_at hy
    exact (ln_at (sh := sh) (x := x) h0 hm (by rw [ln_len] at hj; exact hj)).2.1)
  rw [e1, hc] at hs
  unfold spdO at hz
  rw [if_pos g, e1, hc] at hz
  have hcc : carsN l ≤ 20 := by unfold carsN; omega
  have := sp_ok hs.1 (show 1 ≤ carsN l by omega) hcc (show 0 ≤ most by omega) hM hs.2
  exact ⟨(fLtO_of hz).trans this.1, (fGtO_of hz).trans this.2⟩
/-- Places of lanes that are changed. -/
theorem sw_at {a b : List Int} {n : Int} {i : Nat} (ha : (a.length : Int) = n) (hb : (b.length : Int) = n) (hi : (i : Int) < n) :
    (at_ 0 (swL a b a.length) (i : Int) = at_ 0 a (i : Int) ∧ at_ 0 (swL b a b.length) (i : Int) = at_ 0 b (i : Int)) ∨
    (at_ 0 (swL a b a.length) (i : Int) = at_ 0 b (i : Int) ∧ at_ 0 (swL b a b.length) (i : Int) = at_ 0 a (i : Int) ∧
      ((0 ≤ at_ 0 a (i : Int) ∧ 0 ≤ at_ 0 a (((i : Int) + 1) % n) ∧ at_ 0 b (i : Int) < 0 ∧ at_ 0 b (((i : Int) + 1) % n) < 0 ∧ at_ 0 b (((i : Int) + n - 1) % n) < 0) ∨ at_ 0 a (i : Int) < 0)) := by
  rw [at_sw (by omega), at_sw (by omega)]
  rcases sw_pair a b i with ⟨g1, g2⟩ | ⟨g1, g2, g3⟩
  · exact .inl ⟨g1, g2⟩
  · refine .inr ⟨g1, g2, ?_⟩
    rcases g3 with g | g
    · unfold chg at g
      rw [ha, Int.tmod_eq_emod_of_nonneg (by omega), Int.tmod_eq_emod_of_nonneg (by omega)] at g
      exact .inl g
    · exact .inr g.2.2.1
end Go.Proofs.Ytdfoobomlabffaa
