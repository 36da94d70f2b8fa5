/- Lists of truths: copies, and what is alike; lengths that are paid for. -/
import Derived.Test.YtaflemogkogkkaaSC
import Derived.Test.YtaflemogkogkkaaSS
namespace Go.Proofs.Ytaflemogkogkkaa
open HL
set_option maxRecDepth 100000
end Go.Proofs.Ytaflemogkogkkaa
