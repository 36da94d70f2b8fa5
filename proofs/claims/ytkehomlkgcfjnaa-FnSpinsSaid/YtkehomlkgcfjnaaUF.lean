/- Fields in slices: one of them. -/
import Derived.Test.YtkehomlkgcfjnaaKS
import Derived.Test.YtkehomlkgcfjnaaTA
import Derived.Test.YtkehomlkgcfjnaaSY
namespace Go.Proofs.Ytkehomlkgcfjnaa
open HL
/-- A field as it lies in cells. -/
structure Fv where
  r : Int
  c : Int
  v : Value
def fv0 : Fv := ⟨0, 0, .slice none 0 0⟩
def encFv (x : Fv) : List Value := [.int .i64 x.r, .int .i64 x.c, x.v]
theorem encFv_n (x : Fv) : (encFv x).length = 3 := rfl
end Go.Proofs.Ytkehomlkgcfjnaa
