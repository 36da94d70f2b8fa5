/- Parts of a field, by plain law: a flood with a stack, and the numbers that it leaves. -/
import Derived.Test.YtejbicikffhggaaPH
namespace Go.Proofs.Ytejbicikffhggaa
open HL
set_option maxRecDepth 100000
open Classical in
/-- The numbers that stand: those of the starts before, and the next one for the cells of a list. -/
noncomputable def ouL (c : Int) (l : List Int) (L : List Nat) (ls : List Int) : List Int := (List.range l.length).map fun x => if nuN c l L x = 0 then (if (x : Int) ∈ ls then (L.length : Int) + 1 else 0) else nuN c l L x
/-- A flood from i with a stack: all that has been found, and what is still to be looked at. -/
def stS (c : Int) (l : List Int) (i : Nat) (ls td : List Int) : Prop := ((i : Int) ∈ ls ∧ (∀ x ∈ ls, ∃ k : Nat, x = (k : Int) ∧ Rch c l i k) ∧ ls.Nodup ∧ ∀ x ∈ td, x ∈ ls) ∧ ∀ x y : Nat, (x : Int) ∈ ls → (x : Int) ∉ td → nbP c x y → onP l y → (y : Int) ∈ ls
/-- The same, while the neighbours of one cell are told up to a place. -/
def stN (c : Int) (l : List Int) (i : Nat) (ls td : List Int) (xv p q : Int) : Prop := ((i : Int) ∈ ls ∧ (∀ x ∈ ls, ∃ k : Nat, x = (k : Int) ∧ Rch c l i k) ∧ ls.Nodup ∧ ∀ x ∈ td, x ∈ ls) ∧ xv ∈ ls ∧ (∀ x y : Nat, (x : Int) ∈ ls → (x : Int) ∉ td → (x : Int) ≠ xv → nbP c x y → onP l y → (y : Int) ∈ ls) ∧ nbD c l ls (xv / c) (xv % c) p q
section
variable {c : Int} {l : List Int} {L : List Nat} {ls td : List Int} {i : Nat}
theorem ouL_len : (ouL c l L ls).length = l.length := by simp [ouL]
open Classical in
theorem ouL_at {y : Nat} (hy : y < l.length) : at_ 0 (ouL c l L ls) (y : Int) = if nuN c l L y = 0 then (if (y : Int) ∈ ls then (L.length : Int) + 1 else 0) else nuN c l L y := by
  rw [at_eq 0 _ (by rw [ouL_len]; exact hy)]
  unfold ouL
  rw [List.getElem_map, List.getElem_range]
theorem ouL_f {y : Nat} (hy : y < l.length) (h : at_ 0 (ouL c l L ls) (y : Int) = 0) : (∀ s ∈ L, ¬ Rch c l s y) ∧ (y : Int) ∉ ls := by
  rw [ouL_at hy] at h
  by_cases h0 : nuN c l L y = 0
  · rw [if_pos h0] at h
    refine ⟨nuN_zero.mp h0, fun hm => ?_⟩
    rw [if_pos hm] at h
    omega
  · rw [if_neg h0] at h; exact absurd h h0
theorem ouL_t {y : Nat} (hy : y < l.length) (h : at_ 0 (ouL c l L ls) (y : Int) ≠ 0) : (∃ s ∈ L, Rch c l s y) ∨ (y : Int) ∈ ls := by
  rw [ouL_at hy] at h
  by_cases h0 : nuN c l L y = 0
  · rw [if_pos h0] at h
    by_cases hm : (y : Int) ∈ ls
    · exact .inr hm
    · rw [if_neg hm] at h; exact absurd rfl h
  · refine .inl (Classical.byContradiction fun hn => h0 (nuN_zero.mpr fun s hs hr => hn ⟨s, hs, hr⟩))
theorem ouL_zero : ouL c l (stsL c l 0) [] = List.replicate l.length 0 := by
  apply List.ext_getElem
  · rw [ouL_len, List.length_replicate]
  · intro j g1 g2
    simp [ouL, stsL, nuN]
theorem ouL_set {y : Nat} (hy : y < l.length) (h : ∀ s ∈ L, ¬ Rch c l s y) : (ouL c l L ls).set y ((L.length : Int) + 1) = ouL c l L (ls ++ [(y : Int)]) := by
  apply List.ext_getElem
  · rw [List.length_set, ouL_len, ouL_len]
  · intro j h1 h2
    simp only [ouL, List.getElem_set, List.getElem_map, List.getElem_range]
    by_cases e : y = j
    · subst e; rw [if_pos rfl, if_pos (nuN_zero.mpr h), if_pos (by simp)]
    · rw [if_neg e]
      by_cases m : (j : Int) ∈ ls
      · simp [m]
      · have : ¬ (j : Int) ∈ ls ++ [(y : Int)] := by simp [m]; omega
        simp [m, this]
theorem ouL_end (h : ∀ x : Nat, (x : Int) ∈ ls ↔ Rch c l i x) : ouL c l L ls = ouL c l (L ++ [i]) [] := by
  unfold ouL
  apply List.map_congr_left
  intro x _
  rw [nuN_snoc]
  by_cases h0 : nuN c l L x = 0
  · by_cases h1 : Rch c l i x
    · rw [if_pos h0, if_pos ((h x).mpr h1)]
      simp only [h0, h1, if_true]
      rw [if_neg (by omega)]
    · rw [if_pos h0, if_neg (fun g => h1 ((h x).mp g))]
      simp [h0, h1]
  · simp [h0]
theorem stS_start (h : onP l i) : stS c l i [(i : Int)] [(i : Int)] :=
  ⟨⟨by simp, fun x hx => ⟨i, by simpa using hx, .base h⟩, by simp, fun x hx => hx⟩, fun x y hx hn => absurd hx hn⟩
theorem stS_len (h : stS c l i ls td) : ls.length ≤ l.length ∧ ∀ x ∈ ls, 0 ≤ x ∧ x < (l.length : Int) := by
  have hb : ∀ x ∈ ls, 0 ≤ x ∧ x < (l.length : Int) := fun x hx => by
    obtain ⟨k, rfl, hr⟩ := h.1.2.1 x hx
    have := hr.on.1.1
    omega
  exact ⟨nodup_len _ _ h.1.2.2.1 hb, hb⟩
theorem stS_end (h : stS c l i ls []) : ∀ x : Nat, (x : Int) ∈ ls ↔ Rch c l i x :=
  fun x => flood_end h.1.1 h.1.2.1 (fun a b ha hn ho => h.2 a b ha (by simp) hn ho) x
/-- The last of the stack is taken. -/
theorem stS_pop (h : stS c l i ls td) (hp : 0 < td.length) : stN c l i ls (td.take (td.length - 1)) (at_ 0 td ((td.length : Int) - 1)) (at_ 0 td ((td.length : Int) - 1) / c - 1) (at_ 0 td ((td.length : Int) - 1) % c - 1) := by
  obtain ⟨⟨h1, h2, h3, h4⟩, h5⟩ := h
  have hm : at_ 0 td ((td.length : Int) - 1) ∈ td := at_mem 0 td (by omega) (by omega)
  refine ⟨⟨h1, h2, h3, fun x hx => h4 x (List.mem_of_mem_take hx)⟩, h4 _ hm, fun x y hx hn hne hb ho => h5 x y hx (fun hxt => ?_) hb ho, nbD_zero⟩
  have e := take_at 0 td (show td.length - 1 < td.length by omega)
  rw [show td.length - 1 + 1 = td.length by omega, List.take_length] at e
  rw [e] at hxt
  rcases List.mem_append.mp hxt with g | g
  · exact hn g
  · simp only [List.mem_singleton] at g
    exact hne (by rw [g]; congr 1; omega)
theorem stN_len {xv p q : Int} (h : stN c l i ls td xv p q) : ls.length ≤ l.length ∧ (∀ x ∈ ls, 0 ≤ x ∧ x < (l.length : Int)) ∧ 0 ≤ xv ∧ xv < (l.length : Int) := by
  have hb : ∀ x ∈ ls, 0 ≤ x ∧ x < (l.length : Int) := fun x hx => by
    obtain ⟨k, rfl, hr⟩ := h.1.2.1 x hx
    have := hr.on.1.1
    omega
  exact ⟨nodup_len _ _ h.1.2.2.1 hb, hb, hb _ h.2.1⟩
/-- All neighbours are told. -/
theorem stN_end {xv q : Int} (h : stN c l i ls td xv (xv / c + 2) q) : stS c l i ls td := by
  obtain ⟨h1, h2, h3, h4⟩ := h
  refine ⟨h1, fun x y hx hn hb ho => ?_⟩
  by_cases e : (x : Int) = xv
  · subst e
    exact h4 y hb.1 hb.2 ho (.inl (by have := hb.1; omega))
  · exact h3 x y hx hn e hb ho
theorem stN_row {xv p : Int} (h : stN c l i ls td xv p (xv % c + 2)) : stN c l i ls td xv (p + 1) (xv % c - 1) := ⟨h.1, h.2.1, h.2.2.1, nbD_row h.2.2.2 _ (by omega)⟩
/-- A place that is told already, or no place at all. -/
theorem stN_skip {xv p q : Int} (h : stN c l i ls td xv p q) (hy : ∀ y : Nat, (y : Int) / c = p → (y : Int) % c = q → onP l y → (y : Int) ∈ ls) : stN c l i ls td xv p (q + 1) := ⟨h.1, h.2.1, h.2.2.1, nbD_next h.2.2.2 hy⟩
theorem stN_out {r xv p q : Int} (hs : sidesF r c) (hl : (l.length : Int) = r * c) (h : stN c l i ls td xv p q) (hn : ¬ (((0 ≤ p ∧ p ≤ r - 1) ∧ 0 ≤ q ∧ q ≤ c - 1) ∧ (p ≠ xv / c ∨ q ≠ xv % c))) : stN c l i ls td xv p (q + 1) := by
  have q2 := hs.2
  refine stN_skip h fun y h1 h2 h3 => ?_
  have yb := rc_bnd (r := r) (c := c) (x := (y : Int)) (by omega) (by omega) (by have := h3.1; omega) h1.symm h2.symm
  have e : p = xv / c ∧ q = xv % c := Classical.byContradiction fun g => hn ⟨⟨by omega, by omega⟩, by omega⟩
  have e0 := Int.emod_add_mul_ediv (y : Int) c
  have e1 := Int.emod_add_mul_ediv xv c
  rw [h1, h2, e.1, e.2, e1] at e0
  rw [← e0]
  exact h.2.1
/-- A neighbour that is no cell of 1, or has a number. -/
theorem stN_told {r xv p q : Int} (hs : sidesF r c) (p0 : 0 ≤ p) (p1 : p ≤ r - 1) (q0 : 0 ≤ q) (q1 : q ≤ c - 1) (h : stN c l i ls td xv p q) (rp : xv / c - p ≤ 1 ∧ p - xv / c ≤ 1) (cq : xv % c - q ≤ 1 ∧ q - xv % c ≤ 1) (hnr : ∀ s ∈ L, ¬ Rch c l s i)
    (hn : at_ 0 l (p * c + q) = 1 → at_ 0 (ouL c l L ls) (p * c + q) ≠ 0) : stN c l i ls td xv p (q + 1) := by
  refine stN_skip h fun y h1 h2 h3 => ?_
  have e0 := Int.emod_add_mul_ediv (y : Int) c
  rw [h1, h2, Int.mul_comm c] at e0
  have ye : (y : Int) = p * c + q := by omega
  have h4 := hn (ye ▸ h3.2)
  rw [← ye] at h4
  rcases ouL_t h3.1 h4 with ⟨s, hs1, hs2⟩ | g
  · exfalso
    obtain ⟨X, hX, hX2⟩ := h.1.2.1 xv h.2.1
    have hn : nbP c X y := by
      unfold nbP
      rw [← hX, h1, h2]
      exact ⟨rp, cq⟩
    exact hnr s hs1 ((hs2.step (nbP_symm hn) hX2.on.1).trans hX2.symm)
  · exact g
/-- A neighbour that is found. -/
theorem stN_put {r xv p q : Int} (hs : sidesF r c) (hl : (l.length : Int) = r * c) (p0 : 0 ≤ p) (p1 : p ≤ r - 1) (q0 : 0 ≤ q) (q1 : q ≤ c - 1) (h : stN c l i ls td xv p q) (rp : xv / c - p ≤ 1 ∧ p - xv / c ≤ 1) (cq : xv % c - q ≤ 1 ∧ q - xv % c ≤ 1)
    (on : at_ 0 l (p * c + q) = 1) (nt : at_ 0 (ouL c l L ls) (p * c + q) = 0) :
    stN c l i (ls ++ [p * c + q]) (td ++ [p * c + q]) xv p (q + 1) ∧ (ouL c l L ls).set (p * c + q).toNat ((L.length : Int) + 1) = ouL c l L (ls ++ [p * c + q]) := by
  have pq := pq_dm (r := r) (c := c) p0 p1 q0 q1
  obtain ⟨Y, hY⟩ := Int.eq_ofNat_of_zero_le pq.1.1
  have hYl : Y < l.length := by omega
  rw [hY] at on nt
  have ho := ouL_f hYl nt
  have oY : onP l Y := ⟨hYl, on⟩
  obtain ⟨⟨h1, h2, h3, h4⟩, h5, h6, h7⟩ := h
  obtain ⟨X, hX, hX2⟩ := h2 xv h5
  have hYp : (Y : Int) / c = p := by rw [← hY]; exact pq.2.2.1
  have hYq : (Y : Int) % c = q := by rw [← hY]; exact pq.2.2.2
  have hn : nbP c X Y := by
    unfold nbP
    rw [← hX, hYp, hYq]
    exact ⟨rp, cq⟩
  rw [hY]
  refine ⟨⟨⟨by simp [h1], fun x hx => ?_, ?_, fun x hx => ?_⟩, by simp [h5], fun x y hx hn hne hb hoy => ?_, nbD_next (nbD_app h7) fun z hz1 hz2 _ => ?_⟩, by rw [Int.toNat_natCast]; exact ouL_set hYl ho.1⟩
  · rcases List.mem_append.mp hx with hx | hx
    · exact h2 x hx
    · simp only [List.mem_singleton] at hx
      exact ⟨Y, hx, hX2.step hn oY⟩
  · exact List.nodup_append.mpr ⟨h3, by simp, fun a ha b hb => by
      simp only [List.mem_singleton] at hb
      subst hb
      exact fun e => ho.2 (e ▸ ha)⟩
  · rcases List.mem_append.mp hx with hx | hx
    · exact List.mem_append_left _ (h4 x hx)
    · exact List.mem_append_right _ hx
  · have hx1 : (x : Int) ∈ ls := by
      rcases List.mem_append.mp hx with hx | hx
      · exact hx
      · exact absurd (List.mem_append_right _ hx) hn
    exact List.mem_append_left _ (h6 x y hx1 (fun g => hn (List.mem_append_left _ g)) hne hb hoy)
  · have e1 := Int.emod_add_mul_ediv (z : Int) c
    have e2 := Int.emod_add_mul_ediv (Y : Int) c
    rw [hz1, hz2] at e1
    rw [hYp, hYq] at e2
    have : (z : Int) = (Y : Int) := by rw [← e1, ← e2]
    rw [this]; simp
/-- Starts reach one another not. -/
theorem stsL_pw : ∀ i : Nat, (stsL c l i).Pairwise fun s t => ¬ Rch c l s t
  | 0 => by simp [stsL]
  | i + 1 => by
    unfold stsL
    split
    · rename_i h
      exact List.pairwise_append.mpr ⟨stsL_pw i, by simp, fun a ha b hb => by
        simp only [List.mem_singleton] at hb
        subst hb
        exact h.2 a ha⟩
    · exact stsL_pw i
theorem nuN_ix {x : Nat} : ∀ {L : List Nat} (_ : L.Pairwise fun s t => ¬ Rch c l s t) {n : Nat} (hn : n < L.length), nuN c l L x = (n : Int) + 1 ↔ Rch c l L[n] x
  | [], _, n, hn => by simp at hn
  | s :: L, hp, n, hn => by
    have pos : 0 ≤ nuN c l L x := by
      clear hp hn
      induction L with
      | nil => simp [nuN]
      | cons a L ih => unfold nuN; split <;> (try split) <;> omega
    rw [List.pairwise_cons] at hp
    unfold nuN
    cases n with
    | zero =>
      simp only [List.getElem_cons_zero]
      by_cases h : Rch c l s x
      · simp [h]
      · rw [if_neg h]
        constructor
        · intro g
          split at g <;> omega
        · intro g; exact absurd g h
    | succ n =>
      simp only [List.getElem_cons_succ]
      have hn' : n < L.length := by simpa using hn
      have ih := nuN_ix hp.2 (x := x) hn'
      by_cases h : Rch c l s x
      · rw [if_pos h]
        constructor
        · intro g; omega
        · intro g; exact absurd (h.trans g.symm) (hp.1 _ (List.getElem_mem hn'))
      · rw [if_neg h]
        by_cases h0 : nuN c l L x = 0
        · rw [if_pos h0]
          constructor
          · intro g; omega
          · intro g
            exact absurd (ih.mpr g) (by rw [h0]; omega)
        · rw [if_neg h0, ← ih]
          omega
end
/-- A part, read off the numbers. -/
theorem prt_num {r c : Int} {l : List Int} (hs : sidesF r c) (hl : (l.length : Int) = r * c) {n : Nat} (hn : n < (stsL c l l.length).length) :
    mkL c (fun i k => if at_ 0 (ouL c l (stsL c l l.length) []) (i * c + k) = (n : Int) + 1 then 1 else 0) (r.toNat * c.toNat) = aloL c l (at_ 0 (stsL c l l.length) (n : Int)) := by
  have e : r.toNat * c.toNat = l.length := by
    have e := congrArg Int.toNat hl
    rw [Int.toNat_natCast, Int.toNat_mul (by have := hs.1; omega) (by have := hs.2; omega)] at e
    exact e.symm
  unfold mkL aloL
  rw [e]
  apply List.map_congr_left
  intro x hx
  have hx' : x < l.length := List.mem_range.mp hx
  have e0 := Int.emod_add_mul_ediv (x : Int) c
  have e1 : (x : Int) / c * c + (x : Int) % c = (x : Int) := by rw [Int.mul_comm]; omega
  have e2 : at_ 0 (stsL c l l.length) (n : Int) = (stsL c l l.length)[n] := at_eq 0 _ hn
  have ix := nuN_ix (x := x) (stsL_pw (c := c) (l := l) l.length) hn
  rw [← e2] at ix
  simp only [e1, ouL_at hx']
  have e3 : (if nuN c l (stsL c l l.length) x = 0 then (if (x : Int) ∈ ([] : List Int) then ((stsL c l l.length).length : Int) + 1 else 0) else nuN c l (stsL c l l.length) x) = nuN c l (stsL c l l.length) x := by
    by_cases h : nuN c l (stsL c l l.length) x = 0 <;> simp [h]
  rw [e3]
  by_cases h : Rch c l (at_ 0 (stsL c l l.length) (n : Int)) x
  · rw [if_pos (ix.mpr h), if_pos h]
  · rw [if_neg (fun g => h (ix.mp g)), if_neg h]
end Go.Proofs.Ytejbicikffhggaa
