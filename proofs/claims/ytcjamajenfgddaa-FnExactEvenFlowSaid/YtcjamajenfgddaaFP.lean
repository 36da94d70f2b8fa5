/- Flows: masses and speeds, told up to which NaN they are. -/
import Derived.Test.YtcjamajenfgddaaFO
import Derived.Test.YtcjamajenfgddaaFD
import Derived.Test.YtcjamajenfgddaaSN
import Derived.Test.YtcjamajenfgddaaKI
namespace Go.Proofs.Ytcjamajenfgddaa
open HL
set_option maxRecDepth 100000
def downs : List Int := [0, 0, 1, 0, -1, 1, 1, -1, -1]
def rights : List Int := [0, 1, 0, -1, 0, 1, -1, -1, 1]
/-- The mass of the first parts, and what goes along some ways. -/
def massO (l : List Nat) : Nat → Option Nat
  | 0 => some 0
  | i + 1 => fAdd (massO l i) (cl (at_ 0 l (i : Int)))
def wayO (ks : List Int) (l : List Nat) : Nat → Option Nat
  | 0 => some 0
  | i + 1 => fAdd (wayO ks l i) (fMul (fI (at_ 0 ks (i : Int))) (cl (at_ 0 l (i : Int))))
/-- The parts of a cell. -/
def cellL (l : List Nat) (t : Int) : List Nat := (l.drop (9 * t).toNat).take ((9 * t + 9).toNat - (9 * t).toNat)
theorem cellL_len {l : List Nat} {t : Int} (h0 : 0 ≤ t) (h : 9 * t + 9 ≤ l.length) : (cellL l t).length = 9 := by
  unfold cellL
  simp only [List.length_take, List.length_drop]; omega
def sumO (l : List Nat) : Nat → Option Nat
  | 0 => some 0
  | i + 1 => fAdd (sumO l i) (massO (cellL l (i : Int)) 9)
def masP (r c : Int) (l : List Nat) (m : List Bool) : Prop := validFlow r c l m ∧ finO (sumO l (r * c).toNat) = true
instance (r c : Int) (l : List Nat) (m : List Bool) : Decidable (masP r c l m) := by unfold masP; infer_instance
def selF (p : Prop) [Decidable p] (x : Nat) : Nat := if p then x else 0
theorem selF_t {p : Prop} [Decidable p] {x : Nat} (h : p) : selF p x = x := if_pos h
theorem selF_f {p : Prop} [Decidable p] {x : Nat} (h : ¬ p) : selF p x = 0 := if_neg h
theorem finB_nn {x : Nat} (h : finB x = true) : nanB .f32 x = false := by
  cases hn : nanB .f32 x with
  | false => rfl
  | true => rw [finB_nan hn] at h; exact absurd h (by simp)
theorem selF_nn {p : Prop} [Decidable p] {a : Option Nat} (h : p → finO a = true) : nanB .f32 (selF p (vO a)) = false := by
  by_cases hp : p
  · rw [selF_t hp]
    have := h hp
    cases a with
    | none => simp [finO] at this
    | some r => exact finB_nn this
  · rw [selF_f hp]; decide
/-- Speeds. -/
def speedO (ks : List Int) (l : List Nat) : Option Nat := fDiv (wayO ks l 9) (massO l 9)
def celP (r c : Int) (l : List Nat) (m : List Bool) (i k : Int) : Prop := (validFlow r c l m ∧ (0 ≤ i ∧ i ≤ r - 1) ∧ 0 ≤ k ∧ k ≤ c - 1) ∧
  posO (massO (cellL l (i * c + k)) 9) = true ∧ finO (massO (cellL l (i * c + k)) 9) = true ∧ finO (speedO downs (cellL l (i * c + k))) = true ∧ finO (speedO rights (cellL l (i * c + k))) = true
instance (r c : Int) (l : List Nat) (m : List Bool) (i k : Int) : Decidable (celP r c l m i k) := by unfold celP; infer_instance
/-- An array in cells. -/
theorem HL.hp_val {P : Program} {x : Sem Value} {v : Value} {H : Hp} {K : Value → Hp → Prop} (e : ∀ K : Value → Hp → Prop, hp P x H K = K v H) (h : K v H) : hp P x H K := (e K).mpr h
theorem HL.Cel.ixA {H : Hp} {p : Value} {cs : List Value} (h : Cel H p cs) {n : Nat} {k : IntKind} {i : Int} (h0 : 0 ≤ i) (h1 : i < n) : vIxArr n 1 p (.int k i) = some (fp p i.toNat) := by
  obtain ⟨r, e, rfl, _⟩ := h
  simp only [vIxArr, fp, Nat.mul_one]
  rw [if_pos ⟨h0, h1⟩]
theorem HL.Cel.ldA {H : Hp} {p : Value} {l : List Int} (h : Cel H p (l.map (.int .i64))) {i : Int} (h0 : 0 ≤ i) (h1 : i < l.length) : vLoad (fp p i.toNat) H = some (.int .i64 (at_ 0 l i)) := by
  refine h.ld i.toNat ?_
  have hi : i.toNat < l.length := by omega
  simp [at_, List.getD_eq_getElem?_getD, List.getElem?_eq_getElem hi]
theorem all3 {E F G : Option Nat} {a b c : Nat} (ha : FR .f32 E a) (hb : FR .f32 F b) (hc : FR .f32 G c) : (∀ x ∈ [a, b, c], finB x = true) ↔ finO E = true ∧ finO F = true ∧ finO G = true := by
  rw [← finO_of ha, ← finO_of hb, ← finO_of hc]; simp
/-- A single number told as a double one. -/
theorem HL.fC_n {x : Nat} {H : Hp} {K : Value → Hp → Prop} (h : nanB .f32 x = false) (hk : nanB .f64 (wide x) = false → K (.float .f64 (wide x)) H) : fC .f64 (.float .f32 x) H K :=
  fC_i (fun _ h2 => hk h2) (fun h2 => absurd h2 (by rw [h]; simp))
end Go.Proofs.Ytcjamajenfgddaa
