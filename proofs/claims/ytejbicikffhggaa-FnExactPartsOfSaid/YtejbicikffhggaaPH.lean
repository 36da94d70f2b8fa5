/- Parts of a field, by plain law: the parts and their places. -/
import Derived.Test.YtejbicikffhggaaPG
import Derived.Test.YtejbicikffhggaaTF
import Derived.Test.YtejbicikffhggaaKF
namespace Go.Proofs.Ytejbicikffhggaa
open HL
set_option maxRecDepth 100000
noncomputable def prtF (r c : Int) (l : List Int) (s : Nat) : FdL := ⟨trR r c (aloL c l s), trC r c (aloL c l s), trL r c (aloL c l s)⟩
noncomputable def prtL (r c : Int) (l : List Int) (L : List Nat) : List FdL := L.map (prtF r c l)
noncomputable def plcL (r c : Int) (l : List Int) (L : List Nat) : List Int := L.flatMap fun s => [(trm r c (aloL c l s)).1, (trm r c (aloL c l s)).2.2.1]
section
variable {r c : Int} {l : List Int} {L : List Nat}
theorem prtL_len : (prtL r c l L).length = L.length := by simp [prtL]
theorem plcL_len : (plcL r c l L).length = 2 * L.length := by
  induction L with
  | nil => rfl
  | cons a L ih => simp only [plcL, List.flatMap_cons, List.length_append, List.length_cons, List.length_nil] at ih ⊢; omega
theorem prtL_snoc (s : Nat) : prtL r c l L ++ [⟨trR r c (aloL c l s), trC r c (aloL c l s), trL r c (aloL c l s)⟩] = prtL r c l (L ++ [s]) := by simp [prtL, prtF]
theorem plcL_snoc (s : Nat) : plcL r c l L ++ [(trm r c (aloL c l s)).1, (trm r c (aloL c l s)).2.2.1] = plcL r c l (L ++ [s]) := by simp [plcL]
theorem trS_pos {m : List Int} (hs : sidesF r c) {x : Nat} (hx : at_ 0 m (x : Int) = 1) : ∀ d : Nat, 0 ≤ (trS r c m (x + 1 + d)).2.1
  | 0 => by
    rw [Nat.add_zero, trS_t hx]
    have : 0 ≤ (x : Int) / c := Int.ediv_nonneg (by omega) (by have := hs.2; omega)
    show 0 ≤ max _ _
    omega
  | d + 1 => by
    have ih := trS_pos hs hx d
    rw [show x + 1 + (d + 1) = (x + 1 + d) + 1 by omega]
    by_cases h : at_ 0 m ((x + 1 + d : Nat) : Int) = 1
    · rw [trS_t h]
      show 0 ≤ max _ _
      omega
    · rw [trS_f h]; exact ih
theorem alo_pos {s : Nat} (hs : sidesF r c) (hl : (l.length : Int) = r * c) (h : onP l s) : 0 ≤ (trm r c (aloL c l s)).2.1 := by
  have e : at_ 0 (aloL c l s) (s : Int) = 1 := by
    rw [at_eq 0 _ (by rw [aloL_len]; exact h.1)]
    unfold aloL
    rw [List.getElem_map, List.getElem_range, if_pos (.base h)]
  have := trS_pos hs e ((r * c).toNat - (s + 1))
  have h1 := h.1
  rw [show s + 1 + ((r * c).toNat - (s + 1)) = (r * c).toNat by omega] at this
  exact this
theorem tkB_zero : tkB c l (stsL c l 0) [] = List.replicate l.length false := by
  apply List.ext_getElem
  · rw [tkB_len, List.length_replicate]
  · intro j g1 g2
    simp [tkB, stsL]
end
end Go.Proofs.Ytejbicikffhggaa
