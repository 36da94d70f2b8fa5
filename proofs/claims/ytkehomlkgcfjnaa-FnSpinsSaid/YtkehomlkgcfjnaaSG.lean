/- Lists of truths: copies, and what is alike; lengths that are paid for. -/
import Derived.Test.YtkehomlkgcfjnaaSC
import Derived.Test.YtkehomlkgcfjnaaSS
namespace Go.Proofs.Ytkehomlkgcfjnaa
open HL
set_option maxRecDepth 100000
end Go.Proofs.Ytkehomlkgcfjnaa
