/- What the small functions of structs come to: copies, sizes, what is alike. -/
import Derived.Test.YtialllbbbpmkbaaDoorSG
namespace Go.Proofs.YtialllbbbpmkbaaDoor
open HL
set_option maxRecDepth 100000
end Go.Proofs.YtialllbbbpmkbaaDoor
