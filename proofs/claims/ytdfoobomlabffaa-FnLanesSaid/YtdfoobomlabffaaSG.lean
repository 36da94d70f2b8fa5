/- Lists of truths: copies, and what is alike; lengths that are paid for. -/
import Derived.Test.YtdfoobomlabffaaSC
import Derived.Test.YtdfoobomlabffaaSS
namespace Go.Proofs.Ytdfoobomlabffaa
open HL
set_option maxRecDepth 100000
end Go.Proofs.Ytdfoobomlabffaa
