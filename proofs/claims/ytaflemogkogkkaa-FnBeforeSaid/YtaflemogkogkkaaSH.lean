/- What the small functions of structs come to: copies, sizes, what is alike. -/
import Derived.Test.YtaflemogkogkkaaSG
namespace Go.Proofs.Ytaflemogkogkkaa
open HL
set_option maxRecDepth 100000
end Go.Proofs.Ytaflemogkogkkaa
