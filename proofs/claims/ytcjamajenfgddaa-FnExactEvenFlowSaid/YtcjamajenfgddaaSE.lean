/- Lanes that are switched: what the program's and the reference's functions come to. -/
import Derived.Test.YtcjamajenfgddaaSC
namespace Go.Proofs.Ytcjamajenfgddaa
open HL
set_option maxRecDepth 100000
/-- May the car at i leave lane a for lane b? -/
def chg (a b : List Int) (i : Int) : Prop :=
  0 ≤ at_ 0 a i ∧ 0 ≤ at_ 0 a ((i + 1).tmod a.length) ∧ at_ 0 b i < 0 ∧ at_ 0 b ((i + 1).tmod a.length) < 0 ∧ at_ 0 b ((i + a.length - 1).tmod a.length) < 0
instance (a b : List Int) (i : Int) : Decidable (chg a b i) := by unfold chg; infer_instance
theorem tmod_lt {i n : Int} (h : 0 ≤ i) (hn : 0 < n) : 0 ≤ i.tmod n ∧ i.tmod n < n := ⟨Int.tmod_nonneg _ h, Int.tmod_lt_of_pos _ hn⟩
end Go.Proofs.Ytcjamajenfgddaa
