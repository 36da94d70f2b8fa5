/- What the small functions of lanes come to. -/
import Derived.Test.YtcjamajenfgddaaSB
import Derived.Test.YtcjamajenfgddaaGA
namespace Go.Proofs.Ytcjamajenfgddaa
open HL
theorem C.spec_l00In {x lo hi : Int} {H : Hp} {K : Value → Hp → Prop} (hk : K (.bool (decide (lo ≤ x ∧ x ≤ hi))) H) : HT prg I.spec_l00In [.int .i64 x, .int .i64 lo, .int .i64 hi].toArray H K := by
  refine R.spec_l00In ?_
  unfold F.spec_l00In
  by_cases h : lo ≤ x
  · simp only [vInt_geq, vInt_leq, ob_some, h, decide_true, gop_tt, vPick_t, true_and] at hk ⊢; exact hk
  · simp only [vInt_geq, ob_some, h, decide_false, gop_ft, vPick_f, false_and] at hk ⊢; exact hk
theorem C.impl_within {x lo hi : Int} {H : Hp} {K : Value → Hp → Prop} (hk : K (.bool (decide (lo ≤ x ∧ x ≤ hi))) H) : HT prg I.impl_within [.int .i64 x, .int .i64 lo, .int .i64 hi].toArray H K := by
  refine R.impl_within ?_
  unfold F.impl_within
  by_cases h : lo ≤ x
  · simp only [vInt_geq, vInt_leq, ob_some, h, decide_true, gop_tt, vPick_t, true_and] at hk ⊢; exact hk
  · simp only [vInt_geq, ob_some, h, decide_false, gop_ft, vPick_f, false_and] at hk ⊢; exact hk
end Go.Proofs.Ytcjamajenfgddaa
