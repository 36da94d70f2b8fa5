/- Numbers with a point in single precision, told up to which NaN they are. -/
import Derived.Test.YtelcmohhjkgjoaaFC
namespace Go.Proofs.Ytelcmohhjkgjoaa
open HL Ieee
set_option maxRecDepth 100000
/-- An operation on what may be no number. -/
def fO (g : Nat → Nat → Option Nat) (a b : Option Nat) : Option Nat := match a, b with | some x, some y => g x y | _, _ => none
def fAdd : Option Nat → Option Nat → Option Nat := fO FloatKind.f32.format.add
def fSub : Option Nat → Option Nat → Option Nat := fO FloatKind.f32.format.sub
def fMul : Option Nat → Option Nat → Option Nat := fO FloatKind.f32.format.mul
def fDiv : Option Nat → Option Nat → Option Nat := fO FloatKind.f32.format.div
def fI (x : Int) : Option Nat := some (FloatKind.nearest .f32 x)
def cl (x : Nat) : Option Nat := if nanB .f32 x = true then none else some x
theorem FR_cl (x : Nat) : FR .f32 (cl x) x := by
  unfold cl
  by_cases h : nanB .f32 x = true
  · rw [if_pos h]; exact h
  · rw [if_neg h]; rfl
theorem FR_cast {a b : Option Nat} {x : Nat} (e : a = b) (h : FR .f32 a x) : FR .f32 b x := e ▸ h
theorem FR_some (x : Nat) : FR .f32 (some x) x := rfl
theorem nan_l {g : Datum → Datum → Option Datum} {h : Datum → Nat} {x y : Nat} (hg : ∀ s p d, g (.nan s p) d = none) (hn : nanB .f32 x = true) : (g (FloatKind.f32.format.read x) (FloatKind.f32.format.read y)).map h = none := by
  unfold nanB at hn
  cases hd : FloatKind.f32.format.read x <;> simp only [hd, Datum.isNaN] at hn
  · simp at hn
  · simp at hn
  · rw [hg]; rfl
theorem nan_r {g : Datum → Datum → Option Datum} {h : Datum → Nat} {x y : Nat} (hg : ∀ s p d, g d (.nan s p) = none) (hn : nanB .f32 y = true) : (g (FloatKind.f32.format.read x) (FloatKind.f32.format.read y)).map h = none := by
  unfold nanB at hn
  cases hd : FloatKind.f32.format.read y <;> simp only [hd, Datum.isNaN] at hn
  · simp at hn
  · simp at hn
  · rw [hg]; rfl
theorem fO_fr {g : Nat → Nat → Option Nat} {a b : Option Nat} {x y : Nat} (hl : ∀ x y, nanB .f32 x = true → g x y = none) (hr : ∀ x y, nanB .f32 y = true → g x y = none) (hx : FR .f32 a x) (hy : FR .f32 b y) : g x y = fO g a b := by
  cases a with
  | none => simp only [FR] at hx; rw [hl x y hx]; rfl
  | some p =>
    simp only [FR] at hx; subst hx
    cases b with
    | none => simp only [FR] at hy; rw [hr _ y hy]; rfl
    | some q => simp only [FR] at hy; subst hy; rfl
section
variable {a b : Option Nat} {x y : Nat} {H : Hp} {K : Value → Hp → Prop}
theorem fA_add (hx : FR .f32 a x) (hy : FR .f32 b y) (hk : ∀ z, FR .f32 (fAdd a b) z → K (.float .f32 z) H) : fA .add (.float .f32 x) (.float .f32 y) H K :=
  fA_i (o := fAdd a b) (congrArg some (fO_fr (fun _ _ h => nan_l (g := Datum.sum) (fun _ _ d => by cases d <;> rfl) h) (fun _ _ h => nan_r (g := Datum.sum) (fun _ _ d => by cases d <;> rfl) h) hx hy)) (fun t => nan_bits32 _ _ t) hk
theorem fA_sub (hx : FR .f32 a x) (hy : FR .f32 b y) (hk : ∀ z, FR .f32 (fSub a b) z → K (.float .f32 z) H) : fA .sub (.float .f32 x) (.float .f32 y) H K :=
  fA_i (o := fSub a b) (congrArg some (fO_fr (fun _ _ h => nan_l (g := fun d e => Datum.sum d e.opposite) (fun _ _ d => by cases d <;> rfl) h) (fun _ _ h => nan_r (g := fun d e => Datum.sum d e.opposite) (fun _ _ d => by cases d <;> rfl) h) hx hy)) (fun t => nan_bits32 _ _ t) hk
theorem fA_mul (hx : FR .f32 a x) (hy : FR .f32 b y) (hk : ∀ z, FR .f32 (fMul a b) z → K (.float .f32 z) H) : fA .mul (.float .f32 x) (.float .f32 y) H K :=
  fA_i (o := fMul a b) (congrArg some (fO_fr (fun _ _ h => nan_l (g := Datum.product) (fun _ _ d => by cases d <;> rfl) h) (fun _ _ h => nan_r (g := Datum.product) (fun _ _ d => by cases d <;> rfl) h) hx hy)) (fun t => nan_bits32 _ _ t) hk
theorem fA_quo (hx : FR .f32 a x) (hy : FR .f32 b y) (hk : ∀ z, FR .f32 (fDiv a b) z → K (.float .f32 z) H) : fA .quo (.float .f32 x) (.float .f32 y) H K :=
  fA_i (o := fDiv a b) (congrArg some (fO_fr (fun _ _ h => nan_l (g := Datum.quotient (FloatKind.f32.format.fractionBits + 2)) (fun _ _ d => by cases d <;> rfl) h) (fun _ _ h => nan_r (g := Datum.quotient (FloatKind.f32.format.fractionBits + 2)) (fun _ _ d => by cases d <;> rfl) h) hx hy)) (fun t => nan_bits32 _ _ t) hk
/-- What of a number's result is told. -/
def finO (a : Option Nat) : Bool := match a with | some r => finB r | none => false
def posO (a : Option Nat) : Bool := match a with | some r => FloatKind.f32.format.order r 0 == some .gt | none => false
def vO (a : Option Nat) : Nat := a.getD 0
theorem finB_nan (h : nanB .f32 x = true) : finB x = false := by
  unfold finB
  have : FloatKind.f32.format.sub x x = none := nan_l (g := fun d e => Datum.sum d e.opposite) (fun _ _ d => by cases d <;> rfl) h
  rw [this]
theorem finO_of (h : FR .f32 a x) : finB x = finO a := by
  cases a with
  | some r => simp only [FR] at h; subst h; rfl
  | none => exact finB_nan h
theorem posO_of (h : FR .f32 a x) : (FloatKind.f32.format.order x 0 == some .gt) = posO a := by
  cases a with
  | some r => simp only [FR] at h; subst h; rfl
  | none => simp only [FR] at h; rw [order_nan h]; rfl
theorem vO_of (h : FR .f32 a x) (hf : finO a = true) : x = vO a := by
  cases a with
  | some r => exact h
  | none => exact absurd hf (by simp [finO])
theorem HL.vFO_gtr (h : FR .f32 a x) : vFcmp .gtr (.float .f32 x) (.float .f32 0) = some (.bool (posO a)) := by rw [vFcmp_gtr, posO_of h]
end
end Go.Proofs.Ytelcmohhjkgjoaa
