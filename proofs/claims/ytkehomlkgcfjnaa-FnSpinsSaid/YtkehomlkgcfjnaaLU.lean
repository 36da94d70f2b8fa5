/- A statement's bytes. -/
import Derived.Test.YtkehomlkgcfjnaaLA
import Derived.Test.YtkehomlkgcfjnaaKU
namespace Go.Proofs.Ytkehomlkgcfjnaa.HL
theorem slU_of_row {W : World} {a : Option Addr} {len cap : Nat} {zs : List Int} (h : IsRow .u8 W a len cap zs) : Sl eU (whole W) (.slice a len cap) (zs.take len) := by
  rcases h with ⟨rfl, rfl, rfl, rfl⟩ | ⟨x, rfl, h1, _, h3, h4, _⟩
  · exact Sl.nil 0 none
  · have hlen : (zs.take len).length = len := by simp; omega
    refine ⟨some x, cap, by rw [hlen], by omega, fun i hi => ⟨x, rfl, ?_⟩⟩
    have hi' : i < zs.length := by simp at hi; omega
    have := h4 i hi'
    rw [List.getElem_take]
    rw [List.getD_eq_getElem?_getD, List.getElem?_eq_getElem hi'] at this
    exact this
theorem rowU_max {W : World} {a : Option Addr} {len cap : Nat} {zs : List Int} (h : IsRow .u8 W a len cap zs) : (zs.take len).length ≤ 9223372036854775807 := by
  rcases h with ⟨rfl, rfl, rfl, rfl⟩ | ⟨x, rfl, h1, h2, h3, _, _⟩
  · simp
  · have : maxLen = 9223372036854775807 := by decide
    simp; omega
theorem rowU_byt {W : World} {a : Option Addr} {len cap : Nat} {zs : List Int} (h : IsRow .u8 W a len cap zs) : bytP (zs.take len) := by
  rcases h with ⟨rfl, rfl, rfl, rfl⟩ | ⟨x, rfl, h1, h2, h3, _, hw⟩
  · intro y hy; simp at hy
  · intro y hy
    have := hw y (List.mem_of_mem_take hy)
    unfold Lit.wf at this
    simp [IntKind.min, IntKind.max, IntKind.signed, IntKind.bits] at this
    omega
end Go.Proofs.Ytkehomlkgcfjnaa.HL
