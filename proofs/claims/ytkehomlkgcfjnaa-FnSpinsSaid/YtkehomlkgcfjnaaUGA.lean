/- Numbers compared, shares, seeds. -/
import Derived.Test.YtkehomlkgcfjnaaFA
namespace Go.Proofs.Ytkehomlkgcfjnaa
open HL
set_option maxRecDepth 100000
def HL.fLt (x y : Nat) : Bool := FloatKind.f32.format.order x y == some .lt
theorem HL.vF_lss (x y : Nat) : vFcmp .lss (.float .f32 x) (.float .f32 y) = some (.bool (fLt x y)) := by simp [vFcmp, fLt]
def HL.fLe (x y : Nat) : Bool := FloatKind.f32.format.order x y == some .lt || FloatKind.f32.format.order x y == some .eq
theorem HL.vF_leq (x y : Nat) : vFcmp .leq (.float .f32 x) (.float .f32 y) = some (.bool (fLe x y)) := by simp [vFcmp, fLe]
def HL.fGt (x y : Nat) : Bool := FloatKind.f32.format.order x y == some .gt
theorem HL.vF_gtr (x y : Nat) : vFcmp .gtr (.float .f32 x) (.float .f32 y) = some (.bool (fGt x y)) := by simp [vFcmp, fGt]
def HL.fGe (x y : Nat) : Bool := FloatKind.f32.format.order x y == some .gt || FloatKind.f32.format.order x y == some .eq
theorem HL.vF_geq (x y : Nat) : vFcmp .geq (.float .f32 x) (.float .f32 y) = some (.bool (fGe x y)) := by simp [vFcmp, fGe]
/-- A share: from 0 to 1. -/
def shrP (x : Nat) : Prop := fGe x 0 = true ∧ fLe x 1065353216 = true
instance (x : Nat) : Decidable (shrP x) := by unfold shrP; infer_instance
/-- Less, where one side may be no number. -/
def fLtO (o : Option Nat) (y : Nat) : Bool := match o with | some r => fLt r y | none => false
theorem fLtO_of {o : Option Nat} {z y : Nat} (h : FR .f32 o z) : fLt z y = fLtO o y := by
  cases o with
  | some r => simp only [FR] at h; subst h; rfl
  | none =>
    simp only [FR] at h
    unfold fLtO fLt
    rw [order_nan h]; rfl
/-- The next seed, and the one behind some draws. -/
def nxS (x : Int) : Int := (1664525 * x + 1013904223) % 4294967296
def sdS (x : Int) : Nat → Int
  | 0 => x
  | n + 1 => nxS (sdS x n)
theorem sdS_bnd {x : Int} (h0 : 0 ≤ x) (h1 : x ≤ 4294967295) : ∀ n, 0 ≤ sdS x n ∧ sdS x n ≤ 4294967295
  | 0 => ⟨h0, h1⟩
  | n + 1 => by simp only [sdS, nxS]; omega
def shB (x : Int) (sh : Nat) : Bool := fLtO (FloatKind.f32.format.div (FloatKind.f32.nearest (x / 256)) 1266679808) sh
end Go.Proofs.Ytkehomlkgcfjnaa
