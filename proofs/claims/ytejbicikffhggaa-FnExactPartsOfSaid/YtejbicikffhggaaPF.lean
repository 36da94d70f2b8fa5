/- Parts of a field, by plain law: what can be reached, starts, numbers. -/
import Derived.Test.YtejbicikffhggaaUM
namespace Go.Proofs.Ytejbicikffhggaa
open HL
set_option maxRecDepth 100000
/-- Cells side by side, or corner by corner; a cell and itself too. -/
def nbP (c : Int) (x y : Nat) : Prop := ((x : Int) / c - (y : Int) / c ≤ 1 ∧ (y : Int) / c - (x : Int) / c ≤ 1) ∧ (x : Int) % c - (y : Int) % c ≤ 1 ∧ (y : Int) % c - (x : Int) % c ≤ 1
theorem nbP_symm {c : Int} {x y : Nat} (h : nbP c x y) : nbP c y x := ⟨⟨h.1.2, h.1.1⟩, h.2.2, h.2.1⟩
/-- A cell of 1. -/
def onP (l : List Int) (x : Nat) : Prop := x < l.length ∧ at_ 0 l (x : Int) = 1
instance (l : List Int) (x : Nat) : Decidable (onP l x) := by unfold onP; infer_instance
/-- What can be reached from a cell. -/
inductive Rch (c : Int) (l : List Int) (s : Nat) : Nat → Prop
  | base : onP l s → Rch c l s s
  | step {x y : Nat} : Rch c l s x → nbP c x y → onP l y → Rch c l s y
section
variable {c : Int} {l : List Int} {s : Nat}
theorem Rch.on {x : Nat} (h : Rch c l s x) : onP l x ∧ onP l s := by
  induction h with
  | base h => exact ⟨h, h⟩
  | step _ _ hy ih => exact ⟨hy, ih.2⟩
theorem Rch.trans {x y : Nat} (h : Rch c l s x) (h2 : Rch c l x y) : Rch c l s y := by
  induction h2 with
  | base _ => exact h
  | step _ hn hy ih => exact ih.step hn hy
theorem Rch.symm {x : Nat} (h : Rch c l s x) : Rch c l x s := by
  induction h with
  | base h => exact .base h
  | step hx hn hy ih => exact ((Rch.base hy).step (nbP_symm hn) hx.on.1).trans ih
/-- A set that holds a cell, is sound and closed, is what can be reached. -/
theorem Rch_set {C : Nat → Prop} (hs : C s) (sd : ∀ x, C x → Rch c l s x) (cl : ∀ x y, C x → nbP c x y → onP l y → C y) (x : Nat) : C x ↔ Rch c l s x := by
  constructor
  · exact sd x
  · intro h
    induction h with
    | base _ => exact hs
    | step _ hn hy ih => exact cl _ _ ih hn hy
end
open Classical in
/-- The starts among the first cells. -/
noncomputable def stsL (c : Int) (l : List Int) : Nat → List Nat
  | 0 => []
  | i + 1 => if onP l i ∧ ∀ s ∈ stsL c l i, ¬ Rch c l s i then stsL c l i ++ [i] else stsL c l i
open Classical in
/-- A part alone. -/
noncomputable def aloL (c : Int) (l : List Int) (s : Nat) : List Int := (List.range l.length).map fun x => if Rch c l s x then 1 else 0
open Classical in
/-- The number of a cell's part; 0: none. -/
noncomputable def nuN (c : Int) (l : List Int) : List Nat → Nat → Int
  | [], _ => 0
  | s :: L, x => if Rch c l s x then 1 else if nuN c l L x = 0 then 0 else nuN c l L x + 1
section
variable {c : Int} {l : List Int}
theorem aloL_len (s : Nat) : (aloL c l s).length = l.length := by simp [aloL]
theorem stsL_on : ∀ {i s : Nat}, s ∈ stsL c l i → onP l s ∧ s < i
  | 0, s, h => by simp [stsL] at h
  | i + 1, s, h => by
    unfold stsL at h
    split at h
    · rename_i hc
      rcases List.mem_append.mp h with h | h
      · have := stsL_on h; exact ⟨this.1, by omega⟩
      · simp only [List.mem_singleton] at h; subst h; exact ⟨hc.1, by omega⟩
    · have := stsL_on h; exact ⟨this.1, by omega⟩
/-- Each cell of 1 among the first is reached by a start. -/
theorem stsL_all : ∀ {i x : Nat}, x < i → onP l x → ∃ s ∈ stsL c l i, Rch c l s x
  | 0, x, h, _ => by omega
  | i + 1, x, h, hx => by
    unfold stsL
    by_cases e : x = i
    · subst e
      split
      · exact ⟨x, by simp, .base hx⟩
      · rename_i hc
        apply Classical.byContradiction
        intro hn
        exact hc ⟨hx, fun s hs hr => hn ⟨s, hs, hr⟩⟩
    · obtain ⟨s, h1, h2⟩ := stsL_all (show x < i by omega) hx
      split
      · exact ⟨s, by simp [h1], h2⟩
      · exact ⟨s, h1, h2⟩
theorem nuN_zero : ∀ {L : List Nat} {x : Nat}, nuN c l L x = 0 ↔ ∀ s ∈ L, ¬ Rch c l s x
  | [], x => by simp [nuN]
  | s :: L, x => by
    have ih := nuN_zero (L := L) (x := x)
    have pos : ∀ L : List Nat, 0 ≤ nuN c l L x := by
      intro L
      induction L with
      | nil => simp [nuN]
      | cons a L ih => unfold nuN; split <;> (try split) <;> omega
    have := pos L
    unfold nuN
    by_cases h : Rch c l s x
    · rw [if_pos h]
      constructor
      · intro g; omega
      · intro g; exact absurd h (g s (by simp))
    · rw [if_neg h]
      by_cases h2 : nuN c l L x = 0
      · rw [if_pos h2]
        constructor
        · intro _ a ha
          rcases List.mem_cons.mp ha with rfl | ha
          · exact h
          · exact ih.mp h2 a ha
        · intro _; rfl
      · rw [if_neg h2]
        constructor
        · intro g; omega
        · intro g; exact absurd (ih.mpr (fun a ha => g a (by simp [ha]))) h2
open Classical in
/-- One more start behind the others. -/
theorem nuN_snoc {x t : Nat} : ∀ {L : List Nat}, nuN c l (L ++ [t]) x = if nuN c l L x = 0 then (if Rch c l t x then (L.length : Int) + 1 else 0) else nuN c l L x
  | [] => by
    simp only [List.nil_append, nuN, if_true, List.length_nil]
    by_cases h : Rch c l t x
    · simp [h]
    · simp [h]
  | s :: L => by
    have ih := nuN_snoc (x := x) (t := t) (L := L)
    have p0 : 0 ≤ nuN c l L x := by
      clear ih
      induction L with
      | nil => simp [nuN]
      | cons a L ih => unfold nuN; split <;> (try split) <;> omega
    simp only [List.cons_append, nuN, List.length_cons]
    by_cases h : Rch c l s x
    · rw [if_pos h, if_pos h, if_neg (by omega)]
    · rw [if_neg h, if_neg h, ih]
      by_cases h2 : nuN c l L x = 0
      · rw [if_pos h2]
        simp only [h2, if_true]
        by_cases h3 : Rch c l t x
        · rw [if_pos h3, if_pos h3, if_neg (by omega)]; omega
        · rw [if_neg h3, if_neg h3, if_pos rfl]
      · rw [if_neg h2, if_neg h2, if_neg (by omega)]
end
theorem nodup_len : ∀ (N : Nat) (ls : List Int), ls.Nodup → (∀ x ∈ ls, 0 ≤ x ∧ x < (N : Int)) → ls.length ≤ N
  | 0, ls, _, h => by
    cases ls with
    | nil => simp
    | cons a ls => have := h a (by simp); omega
  | N + 1, ls, hn, h => by
    by_cases hm : (N : Int) ∈ ls
    · obtain ⟨a, b, rfl⟩ := List.append_of_mem hm
      have h1 : (a ++ b).Nodup := by
        have := List.nodup_append.mp hn
        have h2 := List.nodup_cons.mp this.2.1
        exact List.nodup_append.mpr ⟨this.1, h2.2, fun x hx y hy => this.2.2 x hx y (by simp [hy])⟩
      have h3 : ∀ x ∈ a ++ b, x ≠ (N : Int) := by
        have := List.nodup_append.mp hn
        have h2 := List.nodup_cons.mp this.2.1
        intro x hx e
        subst e
        rcases List.mem_append.mp hx with g | g
        · exact this.2.2 _ g _ (by simp) rfl
        · exact h2.1 g
      have := nodup_len N (a ++ b) h1 (fun x hx => by
        have g := h x (by rcases List.mem_append.mp hx with g | g <;> simp [g])
        have := h3 x hx
        omega)
      simp at this ⊢; omega
    · have := nodup_len N ls hn (fun x hx => by
        have g := h x hx
        have : x ≠ (N : Int) := fun e => hm (e ▸ hx)
        omega)
      omega
open Classical in
/-- Which cells are reached from a list of starts, or are in a list. -/
noncomputable def tkB (c : Int) (l : List Int) (L : List Nat) (ls : List Int) : List Bool := (List.range l.length).map fun x => decide ((∃ s ∈ L, Rch c l s x) ∨ (x : Int) ∈ ls)
open Classical in
noncomputable def indL (l ls : List Int) : List Int := (List.range l.length).map fun (x : Nat) => if (x : Int) ∈ ls then 1 else 0
section
variable {c : Int} {l : List Int}
theorem stsL_t {i : Nat} (h : onP l i) (hn : ∀ s ∈ stsL c l i, ¬ Rch c l s i) : stsL c l (i + 1) = stsL c l i ++ [i] := by
  conv => lhs; unfold stsL
  rw [if_pos ⟨h, hn⟩]
theorem stsL_f {i : Nat} (h : ¬ (onP l i ∧ ∀ s ∈ stsL c l i, ¬ Rch c l s i)) : stsL c l (i + 1) = stsL c l i := by
  conv => lhs; unfold stsL
  rw [if_neg h]
theorem tkB_len {L : List Nat} {ls : List Int} : (tkB c l L ls).length = l.length := by simp [tkB]
theorem indL_len {ls : List Int} : (indL l ls).length = l.length := by simp [indL]
/-- A flood that has come to its end. -/
theorem flood_end {i : Nat} {ls : List Int} (hi : (i : Int) ∈ ls) (sd : ∀ x ∈ ls, ∃ k : Nat, x = (k : Int) ∧ Rch c l i k) (cl : ∀ x y : Nat, (x : Int) ∈ ls → nbP c x y → onP l y → (y : Int) ∈ ls) (x : Nat) : (x : Int) ∈ ls ↔ Rch c l i x := by
  refine Rch_set (C := fun x : Nat => (x : Int) ∈ ls) hi (fun y hy => ?_) (fun y z h1 h2 h3 => cl y z h1 h2 h3) x
  obtain ⟨k, hk, hr⟩ := sd _ hy
  have : y = k := by omega
  subst this; exact hr
theorem tkB_end {i : Nat} {L : List Nat} {ls : List Int} (h : ∀ x : Nat, (x : Int) ∈ ls ↔ Rch c l i x) : tkB c l L ls = tkB c l (L ++ [i]) [] := by
  unfold tkB
  apply List.map_congr_left
  intro x _
  apply decide_eq_decide.mpr
  rw [h x]
  constructor
  · rintro (⟨s, h1, h2⟩ | h1)
    · exact .inl ⟨s, by simp [h1], h2⟩
    · exact .inl ⟨i, by simp, h1⟩
  · rintro (⟨s, h1, h2⟩ | h1)
    · rcases List.mem_append.mp h1 with h1 | h1
      · exact .inl ⟨s, h1, h2⟩
      · simp only [List.mem_singleton] at h1; subst h1; exact .inr h2
    · simp at h1
theorem indL_end {i : Nat} {ls : List Int} (h : ∀ x : Nat, (x : Int) ∈ ls ↔ Rch c l i x) : indL l ls = aloL c l i := by
  unfold indL aloL
  apply List.map_congr_left
  intro x _
  by_cases g : Rch c l i x
  · rw [if_pos ((h x).mpr g), if_pos g]
  · rw [if_neg (fun q => g ((h x).mp q)), if_neg g]
end
end Go.Proofs.Ytejbicikffhggaa
