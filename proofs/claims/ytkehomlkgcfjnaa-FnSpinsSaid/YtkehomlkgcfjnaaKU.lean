/- Bytes in slices. -/
import Derived.Test.YtkehomlkgcfjnaaSB
namespace Go.Proofs.Ytkehomlkgcfjnaa.HL
abbrev eU : Int → Value := .int .u8
/-- Numbers that are bytes. -/
def bytP (l : List Int) : Prop := ∀ x ∈ l, 0 ≤ x ∧ x ≤ 255
end Go.Proofs.Ytkehomlkgcfjnaa.HL
