/- Lists of single numbers: copies, and what is alike; which are finite. -/
import Derived.Test.YtkehomlkgcfjnaaFA
namespace Go.Proofs.Ytkehomlkgcfjnaa
open HL
set_option maxRecDepth 100000
def finB (x : Nat) : Bool := match FloatKind.f32.format.sub x x with | some r => FloatKind.f32.format.order r 0 == some .eq | none => false
theorem fin_i {x : Nat} {H : Hp} {K : Value → Hp → Prop} (hk : K (.bool (finB x)) H) : fA .sub (.float .f32 x) (.float .f32 x) H (fun v H2 => ob (vFcmp .eql v (.float .f32 0)) fun v6 => K v6 H2) := by
  refine fA_i (o := FloatKind.f32.format.sub x x) rfl (fun t => nan_bits32 _ _ t) (fun z hz => ?_)
  rw [vFcmp_eql, ob_some]
  unfold finB at hk
  cases ho : FloatKind.f32.format.sub x x with
  | some r => rw [ho] at hz hk; simp only [FR] at hz; subst hz; exact hk
  | none => rw [ho] at hz hk; simp only [FR] at hz; rw [order_nan hz]; exact hk
theorem C.impl_IsFinite {x : Nat} {H : Hp} {K : Value → Hp → Prop} (hk : K (.bool (finB x)) H) : HT prg I.impl_IsFinite [.float .f32 x].toArray H K := R.impl_IsFinite (fin_i hk)
end Go.Proofs.Ytkehomlkgcfjnaa
