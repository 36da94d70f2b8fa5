/- Fields that are made by a function of rows and columns, and fields that grow. -/
import Derived.Test.YtelcmohhjkgjoaaTA
namespace Go.Proofs.Ytelcmohhjkgjoaa
open HL
set_option maxRecDepth 100000
theorem Apart.app {H : Hp} {x u u' : Value} (hx : ∀ b, bk x = some b → ∃ o, H b = some o) (ha : Apart x u) (hb : ∀ b, bk u' = some b → bk u = some b ∨ H b = none) : Apart x u' := fun b h1 h2 => by
  rcases hb b h2 with h | h
  · exact ha b h1 h
  · obtain ⟨o, ho⟩ := hx b h1; rw [h] at ho; simp at ho
theorem Nw.app {H0 H : Hp} {u u' : Value} (hn : Nw H0 u) (hl : Le H0 H) (hb : ∀ b, bk u' = some b → bk u = some b ∨ H b = none) : Nw H0 u' := fun b h => by
  rcases hb b h with h1 | h1
  · exact hn b h1
  · cases ho : H0 b with
    | none => rfl
    | some o => rw [hl b o ho] at h1; simp at h1
theorem apd_one {α : Type} {enc : α → Value} {z : Value} {b : Nat} {e : TypeId} {u t : Value} {x : α} {l : List α} {H : Hp} {K : Value → Hp → Prop} (o : Own enc H u l) (ot : Sl enc H t [x]) (ho : ∀ x, oneCell (enc x) = true) (hb : b ≤ 64) (hl : l.length ≤ 68719476736)
    (hk : ∀ u' H', Own enc H' u' (l ++ [x]) → Off u H H' → (∀ b, bk u' = some b → bk u = some b ∨ H b = none) → K u' H') : apd 1 b #[z] e u t H K := by
  refine o.apd ot ho (by simp; omega) (fun c hc => ?_) hk
  have := nsc_le hc
  simp only [List.length_singleton] at this ⊢
  exact Nat.le_trans (Nat.mul_le_mul this hb) (by omega)
theorem bS_i {α : Type} {enc : α → Value} {len : Nat} {z : Value} {e : TypeId} {parts : List (Nat × Value)} {l : List α} {H : Hp} {K : Value → Hp → Prop} (h1 : len ≤ 1000) (hl : l.length = len)
    (hf : Instr.fill (fun i => some (i * 1, 1)) (if len * 1 = 0 then #[] else zrow #[z] (len * 1)) parts = some (l.map enc).toArray) (hk : ∀ v H', Own enc H' v l → Nw H v → Le H H' → K v H') : bS 1 len #[z] e parts H K := by
  refine ⟨by omega, ?_⟩
  rw [hf]
  intro r hr
  subst hl
  refine hk _ _ ⟨some ⟨r, 0, none⟩, l.length, rfl, Nat.le_refl _, fun _ => ⟨r, 0, _, e, rfl, Hp.put_same _ _ _, by simp, fun i hi => by simp [hi]⟩⟩ ?_ (Le.put _ hr)
  intro b hb
  simp only [bk] at hb
  split at hb
  · simp at hb
  · simp only [Option.some.injEq] at hb; subst hb; exact hr
/-- A field's cells, row by row, by a function. -/
def mkL (c : Int) (g : Int → Int → Int) (n : Nat) : List Int := (List.range n).map fun (t : Nat) => g ((t : Int) / c) ((t : Int) % c)
theorem mkL_length (c : Int) (g : Int → Int → Int) (n : Nat) : (mkL c g n).length = n := by simp [mkL]
theorem mkL_succ (c : Int) (g : Int → Int → Int) (n : Nat) : mkL c g (n + 1) = mkL c g n ++ [g ((n : Int) / c) ((n : Int) % c)] := by simp [mkL, List.range_succ]
theorem divmod {c : Int} {i k : Int} (hc : 0 < c) (k0 : 0 ≤ k) (k1 : k < c) : (i * c + k) / c = i ∧ (i * c + k) % c = k := by
  constructor
  · rw [Int.add_comm, Int.add_mul_ediv_right _ _ (by omega), Int.ediv_eq_zero_of_lt k0 k1]; omega
  · rw [Int.add_comm, Int.add_mul_emod_self_right, Int.emod_eq_of_lt k0 k1]
theorem cast_ix {c : Int} {i k : Nat} (hc : 0 ≤ c) : ((i * c.toNat + k : Nat) : Int) = i * c + k := by rw [Int.natCast_add, Int.natCast_mul, Int.toNat_of_nonneg hc]
def flatF (r c : Int) (l : List Int) (i k : Int) : Int := if (0 ≤ i ∧ i ≤ r - 1) ∧ 0 ≤ k ∧ k ≤ c - 1 then at_ 0 l (i * c + k) else 0
end Go.Proofs.Ytelcmohhjkgjoaa
