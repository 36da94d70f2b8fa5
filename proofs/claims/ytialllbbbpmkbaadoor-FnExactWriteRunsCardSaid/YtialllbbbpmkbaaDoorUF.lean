/- Fields in slices: one of them. -/
import Derived.Test.YtialllbbbpmkbaaDoorKS
import Derived.Test.YtialllbbbpmkbaaDoorTA
import Derived.Test.YtialllbbbpmkbaaDoorSY
namespace Go.Proofs.YtialllbbbpmkbaaDoor
open HL
/-- A field as it lies in cells. -/
structure Fv where
  r : Int
  c : Int
  v : Value
def fv0 : Fv := ⟨0, 0, .slice none 0 0⟩
def encFv (x : Fv) : List Value := [.int .i64 x.r, .int .i64 x.c, x.v]
theorem encFv_n (x : Fv) : (encFv x).length = 3 := rfl
end Go.Proofs.YtialllbbbpmkbaaDoor
