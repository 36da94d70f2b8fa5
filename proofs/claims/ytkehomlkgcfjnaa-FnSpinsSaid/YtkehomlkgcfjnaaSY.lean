/- Rules for the walks that a program writes. -/
import Derived.Test.YtkehomlkgcfjnaaSG
namespace Go.Proofs.Ytkehomlkgcfjnaa.HL
theorem ob_dd {p : Prop} [Decidable p] {x : Option Value} {K : Value → Prop} (h : x = some (.bool (decide p))) (h1 : p → K (.bool true)) (h2 : ¬ p → K (.bool false)) : ob x K := by
  rw [h, ob_some]
  by_cases c : p
  · rw [decide_eq_true c]; exact h1 c
  · rw [decide_eq_false c]; exact h2 c
theorem ob_nd {p : Prop} [Decidable p] {K : Value → Prop} (h1 : p → K (.bool false)) (h2 : ¬ p → K (.bool true)) : ob (vUn .not (.bool (decide p))) K := by
  rw [vUn_not, ob_some]
  by_cases c : p
  · rw [decide_eq_true c]; exact h1 c
  · rw [decide_eq_false c]; exact h2 c
theorem vMx_max (k : IntKind) (a b : Int) : vMx true (.int k a) [.int k b] = some (.int k (max a b)) := by
  simp only [vMx]; congr 2; split <;> omega
theorem vMx_min (k : IntKind) (a b : Int) : vMx false (.int k a) [.int k b] = some (.int k (min a b)) := by
  simp only [vMx]; congr 2; split <;> omega
theorem vInt_quoN {a b : Int} (ha : 0 ≤ a) (ha' : a < 9223372036854775808) (hb : 0 < b) : vInt .quo (.int .i64 a) (.int .i64 b) = some (.int .i64 (a / b)) := by
  rw [vInt_quo hb (by omega) ha', Int.tdiv_eq_ediv_of_nonneg ha]
theorem vInt_remN {a b : Int} (ha : 0 ≤ a) (hb : 0 < b) : vInt .rem (.int .i64 a) (.int .i64 b) = some (.int .i64 (a % b)) := by
  rw [vInt_rem (by omega), Int.tmod_eq_emod_of_nonneg ha]
theorem Apart.ap2 {H : Hp} {x u u' : Value} (hx : ∀ b, bk x = some b → ∃ o, H b = some o) (ha : Apart x u) (hb : ∀ b, bk u' = some b → bk u = some b ∨ H b = none) : Apart x u' := fun b h1 h2 => by
  rcases hb b h2 with h | h
  · exact ha b h1 h
  · obtain ⟨o, ho⟩ := hx b h1; rw [h] at ho; simp at ho
theorem Nw.ap2 {H0 H : Hp} {u u' : Value} (hn : Nw H0 u) (hl : Le H0 H) (hb : ∀ b, bk u' = some b → bk u = some b ∨ H b = none) : Nw H0 u' := fun b h => by
  rcases hb b h with h1 | h1
  · exact hn b h1
  · cases ho : H0 b with
    | none => rfl
    | some o => rw [hl b o ho] at h1; simp at h1
theorem apd_any {α : Type} {enc : α → Value} {z : Value} {b : Nat} {e : TypeId} {u t : Value} {l m : List α} {H : Hp} {K : Value → Hp → Prop} (o : Own enc H u l) (ot : Sl enc H t m) (ho : ∀ x, oneCell (enc x) = true) (hb : b ≤ 64) (hl : l.length + m.length ≤ 68719476736)
    (hk : ∀ u' H', Own enc H' u' (l ++ m) → Off u H H' → (∀ b, bk u' = some b → bk u = some b ∨ H b = none) → K u' H') : apd 1 b #[z] e u t H K := by
  refine o.apd ot ho (by omega) (fun c hc => ?_) hk
  have := nsc_le hc
  exact Nat.le_trans (Nat.mul_le_mul this hb) (by omega)
end Go.Proofs.Ytkehomlkgcfjnaa.HL
