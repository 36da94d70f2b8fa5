/- What the small functions of structs come to: copies, sizes, what is alike. -/
import Derived.Test.YthgjegbckkpaiaaSG
namespace Go.Proofs.Ythgjegbckkpaiaa
open HL
set_option maxRecDepth 100000
end Go.Proofs.Ythgjegbckkpaiaa
