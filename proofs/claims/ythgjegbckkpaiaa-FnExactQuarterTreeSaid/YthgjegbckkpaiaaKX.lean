/- What is held fast; trees of quarters as lists. -/
import Derived.Test.YthgjegbckkpaiaaKW
namespace Go.Proofs.Ythgjegbckkpaiaa
open HL
set_option maxRecDepth 100000
namespace HL
/-- Blocks that stand as they stood. -/
def Frm (H1 : Hp) (R : Rg) (H : Hp) : Prop := ∀ b, R b → ∃ o, H1 b = some o ∧ H b = some o
section
variable {H1 H H' : Hp} {R : Rg}
theorem Frm.known (h : Frm H1 R H) : Kn H R := fun b hb => by
  obtain ⟨o, _, ho⟩ := h b hb; exact ⟨o, ho⟩
theorem Frm.le (h : Frm H1 R H) (hl : Le H H') : Frm H1 R H' := fun b hb => by
  obtain ⟨o, h1, ho⟩ := h b hb; exact ⟨o, h1, hl b o ho⟩
theorem Frm.off {w : Value} (h : Frm H1 R H) (ho : Off w H H') (ha : Apt R w) : Frm H1 R H' := fun b hb => by
  obtain ⟨o, h1, h2⟩ := h b hb; exact ⟨o, h1, ho b o h2 (ha b hb)⟩
theorem Frm.offS {T : Rg} (h : Frm H1 R H) (ho : OffS T H H') (ha : Apt R T) : Frm H1 R H' := fun b hb => by
  obtain ⟨o, h1, h2⟩ := h b hb; exact ⟨o, h1, ho b o h2 (ha b hb)⟩
end
/-- All that is known apart from a thing. -/
def rest {α : Type} [Bks α] (H : Hp) (v : α) : Rg := fun b => (∃ o, H b = some o) ∧ ¬ Bks.inb v b
section
variable {α : Type} [Bks α] {H H' : Hp} {v : α}
theorem rest_start : Frm H (rest H v) H := fun b hb => by
  obtain ⟨⟨o, ho⟩, _⟩ := hb; exact ⟨o, ho, ho⟩
theorem rest_apt : Apt v (rest H v) := fun _ h1 h2 => h2.2 h1
theorem rest_new {u : Value} (h : Apt u (rest H v)) : ∀ b, bk u = some b → Bks.inb v b ∨ H b = none := fun b hb => by
  by_cases hv : Bks.inb v b
  · exact .inl hv
  · right
    cases e : H b with
    | none => rfl
    | some o => exact absurd ⟨⟨o, e⟩, hv⟩ (h b hb)
theorem rest_newS {S : Rg} (h : Apt S (rest H v)) : ∀ b, S b → Bks.inb v b ∨ H b = none := fun b hb => by
  by_cases hv : Bks.inb v b
  · exact .inl hv
  · right
    cases e : H b with
    | none => rfl
    | some o => exact absurd ⟨⟨o, e⟩, hv⟩ (h b hb)
end
theorem rest_off {H H' : Hp} {v : Value} (h : Frm H (rest H v) H') : Off v H H' := fun b o hb hv => by
  obtain ⟨o', h1, h2⟩ := h b ⟨⟨o, hb⟩, hv⟩
  rw [hb] at h1; cases h1; exact h2
theorem rest_offS {H H' : Hp} {S : Rg} (h : Frm H (rest H S) H') : OffS S H H' := fun b o hb hv => by
  obtain ⟨o', h1, h2⟩ := h b ⟨⟨o, hb⟩, hv⟩
  rw [hb] at h1; cases h1; exact h2
theorem Off.refl {H : Hp} {v : Value} : Off v H H := fun _ _ h _ => h
end HL
/-- Four parts are told, one behind the other. -/
def fourQ (g : Int → Int → List Int → Int × List Int) (h i k : Int) (t : List Int) : Nat → List Int × List Int
  | 0 => ([], t)
  | q + 1 => ((fourQ g h i k t q).1 ++ [(g (i + (q : Int) / 2 * h) (k + (q : Int) % 2 * h) (fourQ g h i k t q).2).1], (g (i + (q : Int) / 2 * h) (k + (q : Int) % 2 * h) (fourQ g h i k t q).2).2)
def chQ (t : List Int) (j : Nat) : List Int := (t.drop (4 * j)).take 4
/-- Where four numbers stand. -/
def fndQ (t f : List Int) : Int := fstN (fun j => chQ t j = f) (t.length / 4)
def putQ (t f : List Int) : Int × List Int := if 0 ≤ fndQ t f then (fndQ t f + 2, t) else ((t.length : Int) / 4 + 2, t ++ f)
/-- A part of a field is told. -/
def telF (c : Int) (l : List Int) : Nat → Int → Int → List Int → Int × List Int
  | 0, i, k, t => (at_ 0 l (i * c + k), t)
  | e + 1, i, k, t => putQ (fourQ (telF c l e) (szz e) i k t 4).2 (fourQ (telF c l e) (szz e) i k t 4).1
def treL (r c : Int) (l : List Int) : List Int := (telF c l (lgN r - 1) 0 0 []).2
/-- How much a tree may grow. -/
def grQ : Nat → Nat
  | 0 => 0
  | e + 1 => 4 * grQ e + 4
theorem fourQ_len1 {g : Int → Int → List Int → Int × List Int} {h i k : Int} {t : List Int} : ∀ q, (fourQ g h i k t q).1.length = q
  | 0 => rfl
  | q + 1 => by
    have ih := fourQ_len1 (g := g) (h := h) (i := i) (k := k) (t := t) q
    simp only [fourQ, List.length_append, List.length_singleton, ih]
theorem fourQ_len2 {g : Int → Int → List Int → Int × List Int} {h i k : Int} {t : List Int} {G : Nat} (hg : ∀ i k t, t.length % 4 = 0 → (g i k t).2.length % 4 = 0 ∧ (g i k t).2.length ≤ t.length + G) (ht : t.length % 4 = 0) : ∀ q, (fourQ g h i k t q).2.length % 4 = 0 ∧ (fourQ g h i k t q).2.length ≤ t.length + q * G
  | 0 => ⟨ht, by simp [fourQ]⟩
  | q + 1 => by
    obtain ⟨h1, h2⟩ := fourQ_len2 (h := h) (i := i) (k := k) hg ht q
    obtain ⟨h3, h4⟩ := hg (i + (q : Int) / 2 * h) (k + (q : Int) % 2 * h) _ h1
    refine ⟨h3, ?_⟩
    rw [Nat.add_mul, Nat.one_mul]
    simp only [fourQ]
    omega
theorem telF_len (c : Int) (l : List Int) : ∀ e i k t, t.length % 4 = 0 → (telF c l e i k t).2.length % 4 = 0 ∧ (telF c l e i k t).2.length ≤ t.length + grQ e
  | 0, _, _, _, h => ⟨h, by simp [telF]⟩
  | e + 1, i, k, t, h => by
    obtain ⟨h1, h2⟩ := fourQ_len2 (h := szz e) (i := i) (k := k) (telF_len c l e) h 4
    have h3 := fourQ_len1 (g := telF c l e) (h := szz e) (i := i) (k := k) (t := t) 4
    unfold telF putQ grQ
    split
    · dsimp only; exact ⟨h1, by omega⟩
    · dsimp only; simp only [List.length_append, h3]; omega
theorem grQ_le : ∀ e, e ≤ 4 → grQ e ≤ 340 := by decide
theorem fndQ_none {t f : List Int} (h : ∀ j : Nat, j < t.length / 4 → chQ t j ≠ f) : ¬ 0 ≤ fndQ t f := by
  unfold fndQ; rw [fstN_none h]; omega
theorem fndQ_at {t f : List Int} {j : Nat} (hj : j < t.length / 4) (hp : chQ t j = f) (h : ∀ s : Nat, s < j → chQ t s ≠ f) : fndQ t f = (j : Int) := fstN_at (p := fun j => chQ t j = f) hp h hj
theorem putQ_at {t f : List Int} {j : Nat} (hj : j < t.length / 4) (hp : chQ t j = f) (h : ∀ s : Nat, s < j → chQ t s ≠ f) : putQ t f = ((j : Int) + 2, t) := by
  unfold putQ; rw [fndQ_at hj hp h, if_pos (by omega)]
theorem putQ_none {t f : List Int} (h : ∀ j : Nat, j < t.length / 4 → chQ t j ≠ f) : putQ t f = ((t.length : Int) / 4 + 2, t ++ f) := by
  unfold putQ; rw [if_neg (fndQ_none h)]
theorem szz_half (e : Nat) : szz (e + 1) / 2 = szz e := by rw [← szz_succ]; exact Int.mul_ediv_cancel _ (by omega)
theorem szz_pos (e : Nat) : 1 ≤ szz e := Int.pow_pos (by omega)
theorem treP_len {r c : Int} {l : List Int} : (selL (sqP r c l) (treL r c l)).length ≤ 1000 := selL_len fun h => by
  have h1 := telF_len c l (lgN r - 1) 0 0 [] rfl
  have h2 := grQ_le (lgN r - 1) (by unfold lgN; split <;> (try split) <;> omega)
  unfold treL
  simp only [List.length_nil] at h1
  omega
end Go.Proofs.Ythgjegbckkpaiaa
