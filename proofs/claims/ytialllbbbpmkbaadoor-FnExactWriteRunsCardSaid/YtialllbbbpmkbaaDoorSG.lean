/- Lists of truths: copies, and what is alike; lengths that are paid for. -/
import Derived.Test.YtialllbbbpmkbaaDoorSC
import Derived.Test.YtialllbbbpmkbaaDoorSS
namespace Go.Proofs.YtialllbbbpmkbaaDoor
open HL
set_option maxRecDepth 100000
theorem C.laws_szInt64S {a : Value} {n : Nat} {k : Int} {H : Hp} {K : Value → Hp → Prop} (ha : vLenSl a = some (.int .i64 n)) (h0 : 0 ≤ k) (hn : (n : Int) ≤ 9223372036854775807)  (h1 : k - n < 0 → K (.int .i64 (-1)) H) (h2 : 0 ≤ k - n → K (.int .i64 (k - n)) H) (hk : k < 9223372036854775808 := by omega) :
    HT prg I.laws_szInt64S [a, .int .i64 k].toArray H K := by
  refine R.laws_szInt64S ?_
  unfold F.laws_szInt64S
  rw [ha, ob_some, vInt_sub (by omega) (by omega), ob_some, vInt_lss, ob_some]
  exact cnd_d (fun h => h1 h) (fun h => h2 (by omega))
end Go.Proofs.YtialllbbbpmkbaaDoor
