/- Parts of a field, by plain law: the rounds of a flood; parts and places. -/
import Derived.Test.YtejbicikffhggaaPF
namespace Go.Proofs.Ytejbicikffhggaa
open HL
set_option maxRecDepth 100000
/-- A flood from i: what is in the list, when t of it are told. -/
def flP (c : Int) (l : List Int) (i : Nat) (ls : List Int) (t : Nat) : Prop := (i : Int) ∈ ls ∧ (∀ x ∈ ls, ∃ k : Nat, x = (k : Int) ∧ Rch c l i k) ∧ ls.Nodup ∧ t ≤ ls.length ∧ ∀ x y : Nat, (x : Int) ∈ ls.take t → nbP c x y → onP l y → (y : Int) ∈ ls
/-- The cells around a place that come ahead of another are in the list. -/
def nbD (c : Int) (l ls : List Int) (row col a b : Int) : Prop := ∀ y : Nat, (row - (y : Int) / c ≤ 1 ∧ (y : Int) / c - row ≤ 1) → (col - (y : Int) % c ≤ 1 ∧ (y : Int) % c - col ≤ 1) → onP l y → ((y : Int) / c < a ∨ ((y : Int) / c = a ∧ (y : Int) % c < b)) → (y : Int) ∈ ls
theorem rc_bnd {r c x row col : Int} (hc : 1 ≤ c) (x0 : 0 ≤ x) (x1 : x < r * c) (hr : row = x / c) (hq : col = x % c) : 0 ≤ row ∧ row < r ∧ 0 ≤ col ∧ col < c := by
  subst hr hq
  exact ⟨Int.ediv_nonneg x0 (by omega), Int.ediv_lt_of_lt_mul (by omega) x1, Int.emod_nonneg _ (by omega), Int.emod_lt_of_pos _ (by omega)⟩
theorem pq_dm {r c p q : Int} (p0 : 0 ≤ p) (p1 : p ≤ r - 1) (q0 : 0 ≤ q) (q1 : q ≤ c - 1) : (0 ≤ p * c + q ∧ p * c + q < r * c) ∧ (0 ≤ p * c ∧ p * c ≤ r * c) ∧ (p * c + q) / c = p ∧ (p * c + q) % c = q := by
  have a := Int.mul_nonneg p0 (show 0 ≤ c by omega)
  have b := Int.mul_le_mul_of_nonneg_right (show p + 1 ≤ r by omega) (show 0 ≤ c by omega)
  rw [Int.add_mul, Int.one_mul] at b
  refine ⟨⟨by omega, by omega⟩, ⟨a, by omega⟩, ?_, ?_⟩
  · rw [Int.add_comm, Int.add_mul_ediv_right _ _ (by omega), Int.ediv_eq_zero_of_lt q0 (by omega), Int.zero_add]
  · rw [Int.add_comm, Int.add_mul_emod_self_right]; exact Int.emod_eq_of_lt q0 (by omega)
section
variable {c : Int} {l ls : List Int} {i t : Nat}
theorem flP_start (h : onP l i) : flP c l i [(i : Int)] 0 :=
  ⟨by simp, fun x hx => ⟨i, by simpa using hx, .base h⟩, by simp, by simp, fun x y hx => by simp at hx⟩
theorem flP_len (h : flP c l i ls t) : ls.length ≤ l.length ∧ ∀ x ∈ ls, 0 ≤ x ∧ x < (l.length : Int) := by
  have hb : ∀ x ∈ ls, 0 ≤ x ∧ x < (l.length : Int) := fun x hx => by
    obtain ⟨k, rfl, hr⟩ := h.2.1 x hx
    have := hr.on.1.1
    omega
  exact ⟨nodup_len _ _ h.2.2.1 hb, hb⟩
/-- One more cell. -/
theorem flP_put {x y : Nat} (h : flP c l i ls t) (hx : (x : Int) ∈ ls) (hn : nbP c x y) (hy : onP l y) (hy2 : (y : Int) ∉ ls) : flP c l i (ls ++ [(y : Int)]) t := by
  obtain ⟨h1, h2, h3, h4, h5⟩ := h
  refine ⟨by simp [h1], fun z hz => ?_, ?_, by simp; omega, fun z w hz hw ho => ?_⟩
  · rcases List.mem_append.mp hz with hz | hz
    · exact h2 z hz
    · simp only [List.mem_singleton] at hz
      obtain ⟨k, hk, hr⟩ := h2 _ hx
      have : x = k := by omega
      subst this
      exact ⟨y, hz, hr.step hn hy⟩
  · exact List.nodup_append.mpr ⟨h3, by simp, fun a ha b hb => by
      simp only [List.mem_singleton] at hb
      subst hb
      exact fun e => hy2 (e ▸ ha)⟩
  · rw [List.take_append_of_le_length h4] at hz
    exact List.mem_append_left _ (h5 z w hz hw ho)
/-- A cell whose neighbours are all told. -/
theorem flP_next (h : flP c l i ls t) (ht : t < ls.length) {row col : Int} (hr : row = at_ 0 ls (t : Int) / c) (hc : col = at_ 0 ls (t : Int) % c) (hd : nbD c l ls row col (row + 2) 0) : flP c l i ls (t + 1) := by
  obtain ⟨h1, h2, h3, h4, h5⟩ := h
  refine ⟨h1, h2, h3, by omega, fun x y hx hn ho => ?_⟩
  rw [take_at 0 ls ht] at hx
  rcases List.mem_append.mp hx with hx | hx
  · exact h5 x y hx hn ho
  · simp only [List.mem_singleton] at hx
    have hn1 := hn.1
    have hn2 := hn.2
    rw [hx] at hn1 hn2
    rw [← hr] at hn1
    rw [← hc] at hn2
    exact hd y hn1 hn2 ho (.inl (by omega))
theorem nbD_app {row col a b z : Int} (h : nbD c l ls row col a b) : nbD c l (ls ++ [z]) row col a b := fun y h1 h2 h3 h4 => List.mem_append_left _ (h y h1 h2 h3 h4)
/-- The next place in a row: told, or no cell of 1. -/
theorem nbD_next {row col p q : Int} (h : nbD c l ls row col p q) (hy : ∀ y : Nat, (y : Int) / c = p → (y : Int) % c = q → onP l y → (y : Int) ∈ ls) : nbD c l ls row col p (q + 1) := fun y h1 h2 h3 h4 => by
  by_cases e : (y : Int) / c = p ∧ (y : Int) % c = q
  · exact hy y e.1 e.2 h3
  · exact h y h1 h2 h3 (by omega)
theorem nbD_row {row col p : Int} (h : nbD c l ls row col p (col + 2)) (b : Int) (hb : b ≤ col - 1) : nbD c l ls row col (p + 1) b := fun y h1 h2 h3 h4 => by
  refine h y h1 h2 h3 ?_
  omega
theorem nbD_zero {row col : Int} : nbD c l ls row col (row - 1) (col - 1) := fun y h1 h2 h3 h4 => by omega
end
section
variable {c : Int} {l : List Int}
theorem stsL_len (i : Nat) : (stsL c l i).length ≤ i := by
  induction i with
  | zero => simp [stsL]
  | succ i ih =>
    unfold stsL; split
    · rw [List.length_append, List.length_singleton]; omega
    · omega
open Classical in
theorem tkB_at {L : List Nat} {ls : List Int} {y : Nat} (hy : y < l.length) : at_ false (tkB c l L ls) (y : Int) = decide ((∃ s ∈ L, Rch c l s y) ∨ (y : Int) ∈ ls) := by
  rw [at_eq false _ (by rw [tkB_len]; exact hy)]
  unfold tkB
  rw [List.getElem_map]
  exact decide_eq_decide.mpr (by rw [List.getElem_range])
open Classical in
theorem tkB_t {L : List Nat} {ls : List Int} {y : Nat} (hy : y < l.length) (h : at_ false (tkB c l L ls) (y : Int) = true) : (∃ s ∈ L, Rch c l s y) ∨ (y : Int) ∈ ls := by
  rw [tkB_at hy] at h; exact of_decide_eq_true h
open Classical in
theorem tkB_f {L : List Nat} {ls : List Int} {y : Nat} (hy : y < l.length) (h : at_ false (tkB c l L ls) (y : Int) = false) : (∀ s ∈ L, ¬ Rch c l s y) ∧ (y : Int) ∉ ls := by
  rw [tkB_at hy] at h
  have := of_decide_eq_false h
  exact ⟨fun s h1 h2 => this (.inl ⟨s, h1, h2⟩), fun h1 => this (.inr h1)⟩
theorem tkB_set {L : List Nat} {ls : List Int} {y : Nat} (hy : y < l.length) : (tkB c l L ls).set y true = tkB c l L (ls ++ [(y : Int)]) := by
  apply List.ext_getElem
  · rw [List.length_set, tkB_len, tkB_len]
  · intro j h1 h2
    simp only [tkB, List.getElem_set, List.getElem_map, List.getElem_range]
    by_cases e : y = j
    · subst e; rw [if_pos rfl]; simp
    · rw [if_neg e]
      apply decide_eq_decide.mpr
      have er : (List.range l.length)[j]'(by simpa [tkB_len] using h2) = j := List.getElem_range _
      rw [er]
      constructor
      · rintro (h | h)
        · exact .inl h
        · exact .inr (List.mem_append_left _ h)
      · rintro (h | h)
        · exact .inl h
        · rcases List.mem_append.mp h with h | h
          · exact .inr h
          · simp only [List.mem_singleton] at h; omega
theorem indL_set {ls : List Int} {t : Nat} (ht : t < ls.length) (h0 : 0 ≤ at_ 0 ls (t : Int)) (h1 : at_ 0 ls (t : Int) < l.length) : (indL l (ls.take t)).set (at_ 0 ls (t : Int)).toNat 1 = indL l (ls.take (t + 1)) := by
  obtain ⟨y, hy⟩ := Int.eq_ofNat_of_zero_le h0
  rw [take_at 0 ls ht, hy]
  apply List.ext_getElem
  · rw [List.length_set, indL_len, indL_len]
  · intro j g1 g2
    simp only [indL, List.getElem_set, List.getElem_map, List.getElem_range, Int.toNat_natCast]
    by_cases e : y = j
    · subst e; rw [if_pos rfl, if_pos (by simp)]
    · rw [if_neg e]
      by_cases m : (j : Int) ∈ ls.take t
      · rw [if_pos m, if_pos (by simp [m])]
      · rw [if_neg m, if_neg (by simp [m]; omega)]
theorem indL_nil : indL l [] = List.replicate l.length 0 := by
  apply List.ext_getElem
  · rw [indL_len, List.length_replicate]
  · intro j g1 g2
    simp [indL]
end
section
variable {c : Int} {l ls : List Int} {i t : Nat}
/-- A neighbour that is found is put behind the others. -/
theorem flP_found {row col xv y p q : Int} (h : flP c l i ls t) (ht : t < ls.length) (hx : at_ 0 ls (t : Int) = xv) (hr : row = xv / c) (hc : col = xv % c) (y0 : 0 ≤ y) (y1 : y < l.length) (hp : y / c = p) (hq : y % c = q) (rp : row - p ≤ 1 ∧ p - row ≤ 1) (cq : col - q ≤ 1 ∧ q - col ≤ 1) (on : at_ 0 l y = 1) (L : List Nat) (nt : at_ false (tkB c l L ls) y = false) (hd : nbD c l ls row col p q) :
    flP c l i (ls ++ [y]) t ∧ t < (ls ++ [y]).length ∧ (ls ++ [y]).take (t + 1) = ls.take (t + 1) ∧ at_ 0 (ls ++ [y]) (t : Int) = xv ∧ nbD c l (ls ++ [y]) row col p (q + 1) ∧ (tkB c l L ls).set y.toNat true = tkB c l L (ls ++ [y]) := by
  obtain ⟨Y, rfl⟩ := Int.eq_ofNat_of_zero_le y0
  have hm : xv ∈ ls := hx ▸ at_mem 0 ls (by omega) (by omega)
  obtain ⟨X, hX, _⟩ := h.2.1 xv hm
  have oY : onP l Y := ⟨by omega, on⟩
  have nY := (tkB_f (L := L) (by omega) nt).2
  have hn : nbP c X Y := by
    unfold nbP
    rw [← hX, ← hr, ← hc, hp, hq]
    exact ⟨rp, cq⟩
  refine ⟨flP_put h (x := X) (by rw [← hX]; exact hm) hn oY nY, by simp; omega, List.take_append_of_le_length (by omega), ?_, nbD_next (nbD_app hd) (fun z hz1 hz2 _ => ?_), by rw [Int.toNat_natCast]; exact tkB_set (by omega)⟩
  · rw [at_eq 0 _ (by simp; omega), List.getElem_append_left ht, ← at_eq 0 ls ht]; exact hx
  · have e1 := Int.emod_add_mul_ediv (z : Int) c
    have e2 := Int.emod_add_mul_ediv (Y : Int) c
    rw [hz1, hz2] at e1
    rw [hp, hq] at e2
    have : (z : Int) = (Y : Int) := by rw [← e1, ← e2]
    rw [this]; simp
/-- A place that is no cell of 1, taken, or out of the field. -/
theorem nbD_skip {row col p q : Int} {L : List Nat} (hd : nbD c l ls row col p q) (hL : ∀ s ∈ L, ∀ y : Nat, (y : Int) / c = p → (y : Int) % c = q → onP l y → Rch c l s y → (y : Int) ∈ ls) (h : ∀ y : Nat, (y : Int) / c = p → (y : Int) % c = q → onP l y → at_ false (tkB c l L ls) (y : Int) = true) : nbD c l ls row col p (q + 1) :=
  nbD_next hd (fun y h1 h2 h3 => by
    rcases tkB_t h3.1 (h y h1 h2 h3) with ⟨s, g1, g2⟩ | g
    · exact hL s g1 y h1 h2 h3 g2
    · exact g)
end
section
variable {c : Int} {l ls : List Int} {i t : Nat}
theorem nbD_skip2 {row col xv p q : Int} (h : flP c l i ls t) (ht : t < ls.length) (hx : at_ 0 ls (t : Int) = xv) (hr : row = xv / c) (hc : col = xv % c) (rp : row - p ≤ 1 ∧ p - row ≤ 1) (cq : col - q ≤ 1 ∧ q - col ≤ 1) (L : List Nat) (hnr : ∀ s ∈ L, ¬ Rch c l s i) (hd : nbD c l ls row col p q)
    (hs : ∀ y : Nat, (y : Int) / c = p → (y : Int) % c = q → onP l y → at_ false (tkB c l L ls) (y : Int) = true) : nbD c l ls row col p (q + 1) := by
  refine nbD_skip (L := L) hd (fun s hsL y h1 h2 h3 h4 => ?_) hs
  have hm : xv ∈ ls := hx ▸ at_mem 0 ls (by omega) (by omega)
  obtain ⟨X, hX, hX2⟩ := h.2.1 xv hm
  have hn : nbP c X y := by
    unfold nbP
    rw [← hX, ← hr, ← hc, h1, h2]
    exact ⟨rp, cq⟩
  exact absurd ((h4.step (nbP_symm hn) hX2.on.1).trans hX2.symm) (hnr s hsL)
end
end Go.Proofs.Ytejbicikffhggaa
