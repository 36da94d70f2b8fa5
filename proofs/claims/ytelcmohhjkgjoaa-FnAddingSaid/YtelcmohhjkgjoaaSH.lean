/- What the small functions of structs come to: copies, sizes, what is alike. -/
import Derived.Test.YtelcmohhjkgjoaaSG
namespace Go.Proofs.Ytelcmohhjkgjoaa
open HL
set_option maxRecDepth 100000
end Go.Proofs.Ytelcmohhjkgjoaa
