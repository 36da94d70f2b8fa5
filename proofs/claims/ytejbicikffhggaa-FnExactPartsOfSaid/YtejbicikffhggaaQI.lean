/- What the small functions of structs come to: copies, sizes, what is alike. -/
import Derived.Test.YtejbicikffhggaaSG
namespace Go.Proofs.Ytejbicikffhggaa
open HL
set_option maxRecDepth 100000
end Go.Proofs.Ytejbicikffhggaa
