/- The numbers of this seat's functions. -/
import Derived.Test.YtkehomlkgcfjnaaProg
import Derived.Test.YtkehomlkgcfjnaaHI
namespace Go.Proofs.Ytkehomlkgcfjnaa
open HL
noncomputable abbrev prg : Program := Try.prog
theorem mixed : prg.follows .mixedOrders = true := by kernel_rfl
abbrev I.laws_r8Long : FuncId := 4
abbrev I.laws_r8At : FuncId := 5
abbrev I.spec_l00From : FuncId := 12
abbrev I.pspec_l00Src_next : FuncId := 33
abbrev I.pspec_l00Src_pick : FuncId := 27
abbrev I.spec_l04DrawStates : FuncId := 13
abbrev I.spec_R8Field : FuncId := 6
abbrev I.impl_within : FuncId := 28
abbrev I.impl_isSide : FuncId := 14
abbrev I.impl_madeField : FuncId := 15
abbrev I.impl_NewField_1 : FuncId := 16
abbrev I.impl_NewField : FuncId := 7
abbrev I.impl_areWithin : FuncId := 29
abbrev I.impl_areMany : FuncId := 25
abbrev I.impl_ValidField : FuncId := 10
abbrev I.impl_isPlain : FuncId := 17
abbrev I.impl_Field_at : FuncId := 34
abbrev I.impl_floorMod : FuncId := 35
abbrev I.impl_Field_has : FuncId := 36
abbrev I.impl_Field_look : FuncId := 30
abbrev I.impl_Field_spin : FuncId := 18
abbrev I.impl_EnergyOf : FuncId := 8
abbrev I.impl_IsFinite : FuncId := 19
abbrev I.impl_isSeed : FuncId := 20
abbrev I.slices_Clone_int64Zint64 : FuncId := 31
abbrev I.impl_copyField : FuncId := 21
abbrev I.impl_nextSeed : FuncId := 22
abbrev I.impl_shareOf : FuncId := 23
abbrev I.math_Float64frombits : FuncId := 37
abbrev I.math_Inf : FuncId := 32
abbrev I.impl_ExpNumber : FuncId := 24
abbrev I.impl_SpinSweep : FuncId := 9
abbrev I.impl_alike : FuncId := 26
abbrev I.impl_CellsApart : FuncId := 11
abbrev I.laws_FnSpins : FuncId := 3
theorem HT_of_eq {P : Program} (od : Nat → Nat × List Nat) {f : FuncId} {fn : Func} {args : List Value} {H : Hp} {K : Value → Hp → Prop} (hm : P.follows .mixedOrders = true) (hf : P.funcs[f]? = some fn) (hok : fnOk P od fn args.length = true) {G : Prop} (e : fev P od fn args H K = G) (h : G) : HT P f args.toArray H K := HT_of_fev od hm hf hok (e.mpr h)
end Go.Proofs.Ytkehomlkgcfjnaa
