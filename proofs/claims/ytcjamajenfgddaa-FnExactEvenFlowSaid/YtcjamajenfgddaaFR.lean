/- Calm parts, and flows that are even. -/
import Derived.Test.YtcjamajenfgddaaFW
namespace Go.Proofs.Ytcjamajenfgddaa
open HL
set_option maxRecDepth 100000
/-- Numbers that are told, each up to which NaN it is. -/
def FL : List (Option Nat) → List Nat → Prop
  | [], [] => True
  | e :: E, x :: l => FR .f32 e x ∧ FL E l
  | _, _ => False
theorem FL.one {e : Option Nat} {x : Nat} (h : FR .f32 e x) : FL [e] [x] := ⟨h, trivial⟩
theorem FL.app : ∀ {E F : List (Option Nat)} {l m : List Nat}, FL E l → FL F m → FL (E ++ F) (l ++ m)
  | [], F, [], m, _, h => h
  | e :: E, F, x :: l, m, h1, h2 => ⟨h1.1, FL.app h1.2 h2⟩
  | [], _, _ :: _, _, h, _ => h.elim
  | _ :: _, _, [], _, h, _ => h.elim
theorem FL.len : ∀ {E : List (Option Nat)} {l : List Nat}, FL E l → l.length = E.length
  | [], [], _ => rfl
  | e :: E, x :: l, h => congrArg (· + 1) (FL.len h.2)
  | [], _ :: _, h => h.elim
  | _ :: _, [], h => h.elim
theorem FL.fin : ∀ {E : List (Option Nat)} {l : List Nat}, FL E l → ((∀ x ∈ l, finB x = true) ↔ ∀ e ∈ E, finO e = true)
  | [], [], _ => by simp
  | e :: E, x :: l, h => by
    rw [List.forall_mem_cons, List.forall_mem_cons, FL.fin h.2, finO_of h.1]
  | [], _ :: _, h => h.elim
  | _ :: _, [], h => h.elim
theorem FL.vals : ∀ {E : List (Option Nat)} {l : List Nat}, FL E l → (∀ e ∈ E, finO e = true) → l = E.map vO
  | [], [], _, _ => rfl
  | e :: E, x :: l, h, hf => by
    rw [List.map_cons, ← vO_of h.1 (hf e (by simp)), ← FL.vals h.2 (fun y hy => hf y (by simp [hy]))]
  | [], _ :: _, h, _ => h.elim
  | _ :: _, [], h, _ => h.elim
theorem FL.cast {E F : List (Option Nat)} {l : List Nat} (e : E = F) (h : FL E l) : FL F l := e ▸ h
theorem FL.nil : FL [] [] := trivial
/-- The calm part of a mass and speeds. -/
def wgtN (q : Int) : Nat := if q = 0 then 1055100473 else if q ≤ 4 then 1038323257 else 1021546041
theorem wgt_lo {q : Int} (h0 : 0 ≤ q) (h : ¬ 4 < q) : (if 0 < q then 1038323257 else 1055100473) = wgtN q := by
  unfold wgtN
  by_cases h1 : q = 0
  · rw [if_pos h1, if_neg (by omega)]
  · rw [if_neg h1, if_pos (by omega), if_pos (by omega)]
theorem wgt_hi {q : Int} (h : 4 < q) : 1021546041 = wgtN q := by
  unfold wgtN
  rw [if_neg (by omega), if_neg (by omega)]
def ways (q : Int) (u v : Nat) : Option Nat := fAdd (fMul (fI (at_ 0 downs q)) (cl u)) (fMul (fI (at_ 0 rights q)) (cl v))
def calmO (q : Int) (m u v : Nat) : Option Nat :=
  fMul (fMul (some (wgtN q)) (cl m)) (fSub (fAdd (fAdd (some 1065353216) (fMul (some 1077936128) (ways q u v))) (fMul (fMul (some 1083179008) (ways q u v)) (ways q u v))) (fMul (some 1069547520) (fAdd (fMul (cl u) (cl u)) (fMul (cl v) (cl v)))))
def calmE (m u v n : Nat) : List (Option Nat) := (List.range n).map fun (q : Nat) => calmO (q : Int) m u v
theorem calmE_succ (m u v n : Nat) : calmE m u v n ++ [calmO (n : Int) m u v] = calmE m u v (n + 1) := by simp [calmE, List.range_succ]
theorem calmE_len (m u v n : Nat) : (calmE m u v n).length = n := by simp [calmE]
def evenE (m u v : Nat) : Nat → List (Option Nat)
  | 0 => []
  | n + 1 => evenE m u v n ++ calmE m u v 9
theorem evenE_len (m u v : Nat) : ∀ n : Nat, (evenE m u v n).length = 9 * n
  | 0 => rfl
  | n + 1 => by rw [evenE, List.length_append, evenE_len m u v n, calmE_len]; omega
def evenP (r c : Int) (m u v : Nat) : Prop := (sides r c ∧ finB m = true ∧ finB u = true ∧ finB v = true) ∧ ∀ e ∈ evenE m u v (r * c).toNat, finO e = true
instance (r c : Int) (m u v : Nat) : Decidable (evenP r c m u v) := by unfold evenP; infer_instance
theorem repl_succ (n : Nat) : List.replicate n false ++ [false] = List.replicate (n + 1) false := by rw [List.replicate_succ']
theorem evenP_len {r c : Int} {m u v : Nat} : (selL (evenP r c m u v) ((evenE m u v (r * c).toNat).map vO)).length ≤ 2304 ∧ (selL (evenP r c m u v) (List.replicate (r * c).toNat false)).length ≤ 256 := by
  by_cases h : evenP r c m u v
  · have := sides_mul h.1.1
    rw [selL_t h, selL_t h, List.length_map, evenE_len, List.length_replicate]
    omega
  · rw [selL_f h, selL_f h]; simp
end Go.Proofs.Ytcjamajenfgddaa
