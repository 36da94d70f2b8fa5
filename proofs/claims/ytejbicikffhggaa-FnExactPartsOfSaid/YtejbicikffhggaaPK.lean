/- Parts of a field: how great they are. -/
import Derived.Test.YtejbicikffhggaaPJ
import Derived.Test.YtejbicikffhggaaKL
namespace Go.Proofs.Ytejbicikffhggaa
open HL
set_option maxRecDepth 100000
section
variable {r c : Int} {l : List Int}
theorem fsz_le_mul2 {n : Nat} : ∀ {fs : List FdL}, (∀ f ∈ fs, f.l.length ≤ n) → fsz fs ≤ fs.length * (2 + n)
  | [], _ => by simp [fsz]
  | f :: fs, h => by
    have h1 := h f (by simp)
    have h2 := fsz_le_mul2 (fs := fs) (fun g hg => h g (by simp [hg]))
    simp only [fsz, List.length_cons, Nat.succ_mul]
    omega
theorem prtF_len {s : Nat} (hs : sidesF r c) (hl : (l.length : Int) = r * c) (h : onP l s) : (prtF r c l s).l.length ≤ 576 := by
  have b := trm_bnd hs (alo_pos hs hl h)
  have q1 := hs.1
  have q2 := hs.2
  show (trL r c (aloL c l s)).length ≤ 576
  unfold trL
  rw [mkL_length]
  have := Nat.mul_le_mul (show (trR r c (aloL c l s)).toNat ≤ 24 by omega) (show (trC r c (aloL c l s)).toNat ≤ 24 by omega)
  omega
theorem prtP_len : (selL (fieldN 1 r c l) (prtL r c l (stsL c l l.length))).length ≤ 576 ∧ fsz (selL (fieldN 1 r c l) (prtL r c l (stsL c l l.length))) ≤ 1000000 ∧ (∀ f ∈ selL (fieldN 1 r c l) (prtL r c l (stsL c l l.length)), f.l.length ≤ 1000000000) ∧ (selL (fieldN 1 r c l) (plcL r c l (stsL c l l.length))).length ≤ 1152 := by
  by_cases h : fieldN 1 r c l
  · rw [selL_t h, selL_t h, prtL_len, plcL_len]
    have l1 := fieldN_len h
    have l2 := stsL_len (c := c) (l := l) l.length
    have hm : ∀ f ∈ prtL r c l (stsL c l l.length), f.l.length ≤ 576 := fun f hf => by
      unfold prtL at hf
      obtain ⟨s, h1, rfl⟩ := List.mem_map.mp hf
      exact prtF_len h.1 h.2.1 (stsL_on h1).1
    have := fsz_le_mul2 hm
    rw [prtL_len] at this
    have h3 := Nat.mul_le_mul_right (2 + 576) (show (stsL c l l.length).length ≤ 576 by omega)
    exact ⟨by omega, by omega, fun f hf => by have := hm f hf; omega, by omega⟩
  · rw [selL_f h, selL_f h]; simp [fsz]
end
end Go.Proofs.Ytejbicikffhggaa
